/- LinkOnce, the plain law: letters that were sent are taken in whatever order, each once. -/
import Derived.Test.YtimfhdpgkoonaaaAlO
import Derived.Test.YtimfhdpgkoonaaaBit06
import Derived.Test.YtimfhdpgkoonaaaPrxOnce
set_option linter.unusedVariables false
namespace Go.Proofs.Ytimfhdpgkoonaaa.Pure
open Go.RowKit Go.Proofs.Ytimfhdpgkoonaaa.Pr Go.Proofs.YtimfhdpgkoonaaaW.PrintWords Go.Proofs.YtimfhdpgkoonaaaW.PrintLast Go.Proofs.YtimfhdpgkoonaaaW.PrintMore Go.Proofs.Ytimfhdpgkoonaaa.TT Go.Proofs.Ytimfhdpgkoonaaa.Ev03 Go.Proofs.Ytimfhdpgkoonaaa.L06 Go.Proofs.Ytimfhdpgkoonaaa.Iter

/-! ### Bits -/
theorem shl_bits (c : Nat) (n : Nat) (hn : n ≤ 64) (m : Nat) (e : shl .u64 (c : Int) (n : Int) = (m : Int)) (j : Nat) (hj : j < 64) : m.testBit j = (decide (n ≤ j) && c.testBit (j - n)) := by
  unfold shl at e
  rw [wrap_u64, Int.toNat_natCast, Nat.min_eq_left (by show n ≤ 64; omega)] at e
  have e2 : m = (2 ^ n * c) % 2 ^ 64 := by
    have : ((c : Int) * 2 ^ n) % 18446744073709551616 = (((2 ^ n * c) % 2 ^ 64 : Nat) : Int) := by
      rw [Int.natCast_emod, Int.natCast_mul, Int.natCast_pow, Int.mul_comm]
      rfl
    rw [this] at e
    exact (Int.ofNat.inj e).symm
  rw [e2, Nat.testBit_mod_two_pow, Nat.testBit_two_pow_mul]
  simp [hj]
theorem bit_iff (c : Nat) (hc : c < 18446744073709551616) (n : Nat) (hn : n < 64) : Go.bits .and .u64 (shr .u64 (c : Int) (n : Int)) 1 = 1 ↔ c.testBit n = true := by
  rw [shr_nat c (by omega) (by omega), Int.toNat_natCast, and_one _ (by have := Nat.div_le_self c (2 ^ n); omega), Nat.testBit_eq_decide_div_mod_eq, decide_eq_true_eq]
  generalize c / 2 ^ n = d
  omega

/-! ### The letters -/
def kk : ByteArray := (L06.keyOf (nonceOf 7) 0 1).1
theorem kk_ok : L06.keyOf (nonceOf 7) 0 1 = (kk, 0) := by decide +kernel
def kt : Tm := .two 100 (.nonce 0 7) (.const [0, 1])
theorem kk_str : kk = kt.str := by decide +kernel
theorem kt_ok : kt.ok := ⟨rfl, trivial, by show (2 : Nat) ≤ 40; decide⟩
theorem kt_check : check kt.str = 0 := check_str kt_ok (by decide) (by decide)
theorem kk_tag (n : Int) (l : List Int) (hl : l.length ≤ 100) : (tagOf kk 0 1 n l).2 = 0 := by
  unfold tagOf
  have ht := text_len 0 1 n l
  have hd := btm_depth (textOf 0 1 n l) (by omega)
  have hn := btm_len (textOf 0 1 n l)
  unfold nP at hn
  rw [if_neg (by omega), kk_str]
  unfold two2
  rw [if_pos kt_check, read_str kt kt_ok]
  simp only [Option.elim]
  have e1 : (Tm.two 109 kt (btm (textOf 0 1 n l))).depth = max kt.depth (btm (textOf 0 1 n l)).depth + 1 := rfl
  have e2 : (Tm.two 109 kt (btm (textOf 0 1 n l))).enc.length = 1 + kt.enc.length + (btm (textOf 0 1 n l)).enc.length := by simp [Tm.enc]; omega
  have e3 : kt.depth = 2 := rfl
  have e4 : kt.enc.length = 8 := rfl
  rw [if_pos ⟨by rw [e1, e3]; omega, by rw [e2, e4]; omega⟩]
def Good (ls : List S35) : Prop := ∀ (j : Nat) (y : S35), ls[j]? = some y → y.f0 = 0 ∧ y.f1 = 1 ∧ y.f2 = (j : Int) + 1 ∧ tagOf kk 0 1 y.f2 y.f3 = (y.f4, 0)

/-! ### Taking them -/
def Seen (L : Nat) (x14 : List Bool) (top : Nat) (c : Nat) : Prop := ∀ j, j < L → x14[j]? = some (decide (j + 1 ≤ top) && c.testBit (top - (j + 1)))
theorem order_loop (ls : List S35) (hg : Good ls) (L : Nat) (hL : ls.length = L) (h0 : 0 < L) (h60 : L ≤ 60) (order : List Int) (ho : ∀ x ∈ order, 0 ≤ x ∧ x ≤ 255) (hol : order.length ≤ 9223372036854775807) (x81 : Int) (h81 : x81 = (order.length : Int)) :
    ∀ (m K i : Nat) (x82 : Int) (x14 : List Bool) (top c : Nat), order.length = i + m → x82 = (i : Int) → m + 10 ≤ K → x14.length = L → top ≤ L → c < 18446744073709551616 → Seen L x14 top c →
      chantrylaw06_LinkOnce.l1 K ls x14 order x81 x82 kk 0 (top : Int) (c : Int) = some true
  | 0, K, i, x82, x14, top, c, hm, hx, hK, h14, ht, hc, hs => by
    obtain ⟨K, rfl⟩ : ∃ q, K = q + 1 := ⟨K - 1, by omega⟩
    simp only [chantrylaw06_LinkOnce.l1]
    rw [if_neg (by omega)]
  | m + 1, K, i, x82, x14, top, c, hm, hx, hK, h14, ht, hc, hs => by
    obtain ⟨K, rfl⟩ : ∃ q, K = q + 1 := ⟨K - 1, by omega⟩
    have hw : wrap64 (x82 + 1) = ((i + 1 : Nat) : Int) := by unfold wrap64; omega
    obtain ⟨n, hn⟩ : ∃ n, rd order x82 = n := ⟨_, rfl⟩
    have hnb : 0 ≤ n ∧ n ≤ 255 := by
      rw [← hn, hx]
      unfold rd
      rw [Int.toNat_natCast, List.getD_eq_getElem?_getD, List.getElem?_eq_getElem (by omega)]
      exact ho _ (List.getElem_mem _)
    obtain ⟨q, hq⟩ : ∃ q : Nat, Int.tmod (wrap64 n) (ls.length : Int) = (q : Int) ∧ q < L := by
      have e1 : wrap64 n = n := wr (by omega) (by omega)
      refine ⟨(n % (L : Int)).toNat, ?_, ?_⟩
      · rw [e1, hL, Int.tmod_eq_emod_of_nonneg hnb.1]
        have := Int.emod_nonneg n (show (L : Int) ≠ 0 by omega)
        omega
      · have := Int.emod_nonneg n (show (L : Int) ≠ 0 by omega)
        have := Int.emod_lt_of_pos n (show (0 : Int) < L by omega)
        omega
    obtain ⟨hq1, hq2⟩ := hq
    have hy : ls[q]? = some (rd_T35 ls (q : Int)) := by
      unfold rd_T35
      rw [Int.toNat_natCast, List.getD_eq_getElem?_getD, List.getElem?_eq_getElem (by omega)]
      rfl
    obtain ⟨g0, g1, g2, g3⟩ := hg q _ hy
    have hsq := hs q hq2
    have hrd : rdOf false x14 (q : Int) = (decide (q + 1 ≤ top) && c.testBit (top - (q + 1))) := by
      unfold rdOf
      rw [Int.toNat_natCast, List.getD_eq_getElem?_getD, hsq]
      rfl
    have ih := fun x14' top' c' => order_loop ls hg L hL h0 h60 order ho hol x81 h81 m K (i + 1) ((i + 1 : Nat) : Int) x14' top' c' (by omega) rfl (by omega)
    simp only [chantrylaw06_LinkOnce.l1]
    rw [if_pos (by omega), if_pos (by omega), if_pos (by omega), if_neg (by omega), hn, hq1, if_pos (by omega), if_pos (by omega), accept_spec K (by omega), Option.bind_some, if_pos (by omega), hrd, hw, Int.toNat_natCast]
    have hset : ∀ j, j < L → (x14.set q true)[j]? = some (if j = q then true else (decide (j + 1 ≤ top) && c.testBit (top - (j + 1)))) := by
      intro j hj
      rw [List.getElem?_set]
      by_cases hjq : q = j
      · subst hjq
        rw [if_pos rfl, if_pos (by omega), if_pos rfl]
      · rw [if_neg hjq, if_neg (fun e => hjq e.symm)]
        exact hs j hj
    rw [g0, g1, g2]
    have hacc : ∀ l tg, tagOf kk 0 1 ((q : Int) + 1) l = (tg, 0) → acceptOf kk 0 (top : Int) (c : Int) 1 0 1 ((q : Int) + 1) l tg =
        (if (q : Int) + 1 > (top : Int) then (kk, 0, (q : Int) + 1, Go.bits .or .u64 (shl .u64 (c : Int) (((q : Int) + 1 - top) % 4294967296)) 1, 0)
         else if ((top : Int) - ((q : Int) + 1)) % 4294967296 ≥ 64 then (kk, 0, (top : Int), (c : Int), 6)
         else if Go.bits .and .u64 (shr .u64 (c : Int) (((top : Int) - ((q : Int) + 1)) % 4294967296)) 1 = 1 then (kk, 0, (top : Int), (c : Int), 6)
         else (kk, 0, (top : Int), Go.bits .or .u64 (c : Int) (shl .u64 1 (((top : Int) - ((q : Int) + 1)) % 4294967296)), 0)) := by
      intro l tg h
      unfold acceptOf
      rw [if_pos ⟨rfl, rfl, by omega⟩, h, if_pos rfl, if_pos rfl]
    rw [hacc _ _ (by rw [← g2]; exact g3)]
    by_cases h6 : (q : Int) + 1 > (top : Int)
    · rw [if_pos h6]
      have e0 : decide (q + 1 ≤ top) = false := decide_eq_false (by omega)
      simp only []
      rw [e0, Bool.false_and, if_neg (by decide), if_neg (by decide), if_pos trivial]
      obtain ⟨s, hs1, hs2⟩ := word_nat (shl_word (c : Int) (((q : Int) + 1 - top) % 4294967296))
      have e1 : ((q : Int) + 1 - top) % 4294967296 = ((q + 1 - top : Nat) : Int) := by omega
      rw [e1] at hs1 ⊢
      have hb := shl_bits c (q + 1 - top) (by omega) s hs1
      have e2 : Go.bits .or .u64 (shl .u64 (c : Int) ((q + 1 - top : Nat) : Int)) 1 = ((s ||| 1 : Nat) : Int) := by rw [hs1]; exact u64_or_nat s 1 hs2 (by decide)
      rw [e2, show (q : Int) + 1 = ((q + 1 : Nat) : Int) by omega]
      refine ih _ _ _ (by rw [List.length_set]; exact h14) (by omega) (by have := Nat.or_lt_two_pow (n := 64) (x := s) (y := 1) (by omega) (by decide); omega) ?_
      intro j hj
      rw [hset j hj]
      congr 1
      rw [Nat.testBit_or]
      by_cases hjq : j = q
      · subst hjq
        rw [if_pos rfl, decide_eq_true (Nat.le_refl _), Nat.sub_self]
        simp
      · rw [if_neg hjq]
        have h1 : (1 : Nat).testBit (q + 1 - (j + 1)) = decide (q + 1 - (j + 1) = 0) := by rw [show (1 : Nat) = 2 ^ 0 from rfl, Nat.testBit_two_pow]; simp [eq_comm]
        rw [h1]
        by_cases hjt : j + 1 ≤ top
        · rw [hb _ (by omega), decide_eq_true hjt, decide_eq_true (show j + 1 ≤ q + 1 by omega), decide_eq_true (show q + 1 - top ≤ q + 1 - (j + 1) by omega), decide_eq_false (show ¬ q + 1 - (j + 1) = 0 by omega)]
          rw [show q + 1 - (j + 1) - (q + 1 - top) = top - (j + 1) by omega]
          simp
        · rw [decide_eq_false hjt, Bool.false_and]
          by_cases hj1 : j + 1 ≤ q + 1
          · rw [hb _ (by omega), decide_eq_false (show ¬ q + 1 - top ≤ q + 1 - (j + 1) by omega), decide_eq_false (show ¬ q + 1 - (j + 1) = 0 by omega)]
            simp
          · rw [decide_eq_false hj1]; simp
    · rw [if_neg h6, if_neg (show ¬ ((top : Int) - ((q : Int) + 1)) % 4294967296 ≥ 64 by omega)]
      have e1 : ((top : Int) - ((q : Int) + 1)) % 4294967296 = ((top - (q + 1) : Nat) : Int) := by omega
      have e0 : decide (q + 1 ≤ top) = true := decide_eq_true (by omega)
      rw [e1, e0, Bool.true_and]
      have hbit := bit_iff c hc (top - (q + 1)) (by omega)
      by_cases hb : c.testBit (top - (q + 1)) = true
      · rw [if_pos (hbit.2 hb), hb]
        simp only []
        rw [if_neg (by decide), if_pos trivial]
        refine ih _ _ _ (by rw [List.length_set]; exact h14) ht hc ?_
        intro j hj
        rw [hset j hj]
        congr 1
        by_cases hjq : j = q
        · subst hjq; rw [if_pos rfl, e0, hb]; rfl
        · rw [if_neg hjq]
      · rw [if_neg (fun h => hb (hbit.1 h))]
        replace hb : c.testBit (top - (q + 1)) = false := by simpa using hb
        rw [hb]
        simp only []
        rw [if_neg (by decide), if_neg (by decide), if_pos trivial]
        have hp : (2 : Nat) ^ (top - (q + 1)) < 2 ^ 64 := Nat.pow_lt_pow_right (by decide) (by omega)
        have e2 : Go.bits .or .u64 (c : Int) (shl .u64 1 ((top - (q + 1) : Nat) : Int)) = ((c ||| 2 ^ (top - (q + 1)) : Nat) : Int) := by
          rw [shl_one (by omega) (by omega), Int.toNat_natCast]
          exact u64_or_nat c _ hc hp
        rw [e2]
        refine ih _ _ _ (by rw [List.length_set]; exact h14) ht (Nat.or_lt_two_pow (n := 64) hc hp) ?_
        intro j hj
        rw [hset j hj]
        congr 1
        rw [Nat.testBit_or, Nat.testBit_two_pow]
        by_cases hjq : j = q
        · subst hjq; rw [if_pos rfl, e0]; simp
        · rw [if_neg hjq]
          by_cases hjt : j + 1 ≤ top
          · rw [decide_eq_false (show ¬ top - (q + 1) = top - (j + 1) by omega)]; simp
          · rw [decide_eq_false hjt]; simp

/-! ### Sending them -/
theorem once_end (bodies : List (List Int)) (order : List Int) (ho : ∀ x ∈ order, 0 ≤ x ∧ x ≤ 255) (hol : order.length ≤ 9223372036854775807) (ls : List S35) (hg : Good ls) (h60 : ls.length ≤ 60) (K : Nat) (hK : order.length + 20 ≤ K) (x10 : Int) (a0 : ByteArray) (a1 a2 a3 : Int) :
    chantrylaw06_LinkOnce.j1 K bodies order ls x10 false a0 a1 a2 a3 kk 0 0 0 = some true := by
  obtain ⟨K, rfl⟩ : ∃ q, K = q + 1 := ⟨K - 1, by omega⟩
  simp only [chantrylaw06_LinkOnce.j1]
  rw [if_neg (by decide)]
  by_cases h0 : (ls.length : Int) = 0
  · rw [if_pos h0]
  · rw [if_neg h0, if_pos (by omega), if_pos (by omega), Int.toNat_natCast]
    refine order_loop ls hg ls.length rfl (by omega) h60 order ho hol _ rfl order.length K 0 0 _ 0 0 (by omega) rfl (by omega) (by simp) (by omega) (by decide) ?_
    intro j hj
    rw [List.getElem?_replicate, if_pos hj]
    simp
theorem send_loop (bodies : List (List Int)) (order : List Int) (ho : ∀ x ∈ order, 0 ≤ x ∧ x ≤ 255) (hol : order.length ≤ 9223372036854775807) : ∀ (r i : Nat), i + r = 60 → ∀ (K : Nat) (x10 n : Int) (ls : List S35), x10 = (i : Int) → 2 * r + order.length + 50 ≤ K → Good ls → ls.length ≤ i → n = (ls.length : Int) →
    chantrylaw06_LinkOnce.l0 K bodies order ls x10 kk n 0 0 kk 0 0 0 = some true
  | r, i, hr, K, x10, n, ls, hx, hK, hg, hl, hn => by
    obtain ⟨K, rfl⟩ : ∃ q, K = q + 2 := ⟨K - 2, by omega⟩
    have hend := fun x => once_end bodies order ho hol ls hg (by omega) (K + 1) (by omega) x kk n 0 0
    show chantrylaw06_LinkOnce.l0 (K + 1 + 1) bodies order ls x10 kk n 0 0 kk 0 0 0 = some true
    simp only [chantrylaw06_LinkOnce.l0]
    by_cases h1 : x10 < (bodies.length : Int)
    rotate_left
    · rw [if_neg h1]; exact hend _
    rw [if_pos h1]
    by_cases h2 : x10 < 60
    rotate_left
    · rw [decide_eq_false h2]; exact hend _
    rw [decide_eq_true h2]
    obtain ⟨r, rfl⟩ : ∃ q, r = q + 1 := ⟨r - 1, by omega⟩
    have hw : wrap64 (x10 + 1) = ((i + 1 : Nat) : Int) := by rw [wr (by omega) (by omega)]; omega
    simp only [chantrylaw06_LinkOnce.j1]
    rw [if_pos trivial, if_pos (by omega), if_pos h1, hw]
    by_cases h3 : ((rd_L5 bodies x10).length : Int) > 100
    · rw [if_pos h3]
      exact send_loop bodies order ho hol r (i + 1) (by omega) K _ n ls rfl (by omega) hg (by omega) hn
    · rw [if_neg h3, send_spec _ _ _ _ _ _ _ (by omega), Option.bind_some]
      have ht := kk_tag ((n + 1) % 4294967296) (rd_L5 bodies x10) (by omega)
      have hs : sendOf kk n 0 0 0 1 (rd_L5 bodies x10) = (kk, (n + 1) % 4294967296, 0, 0, 0, 1, (n + 1) % 4294967296, rd_L5 bodies x10, (tagOf kk 0 1 ((n + 1) % 4294967296) (rd_L5 bodies x10)).1, 0) := by
        unfold sendOf
        rw [if_pos (show twoB 0 1 = true from rfl), if_neg (by omega), if_pos ht]
      rw [hs]
      simp only []
      rw [if_pos trivial, if_pos trivial, if_pos (by omega)]
      refine send_loop bodies order ho hol r (i + 1) (by omega) K _ _ _ rfl (by omega) ?_ (by simp; omega) (by simp; omega)
      intro j y hy
      by_cases hj : j < ls.length
      · rw [List.getElem?_append_left hj] at hy
        exact hg j y hy
      · have hje : j = ls.length := by
          have := (List.getElem?_eq_some_iff.1 hy).1
          simp at this
          omega
        subst hje
        rw [List.getElem?_append_right (Nat.le_refl _), Nat.sub_self] at hy
        obtain rfl := Option.some.inj hy
        refine ⟨rfl, rfl, by simp only []; omega, ?_⟩
        exact Prod.ext rfl ht
theorem LinkOnce (bodies : List (List Int)) (order : List Int) (ho : ∀ x ∈ order, 0 ≤ x ∧ x ≤ 255) (hol : order.length ≤ 9223372036854775807) : chantrylaw06_LinkOnce.f (order.length + 300) bodies order = some true := by
  unfold chantrylaw06_LinkOnce.f
  rw [alive06 _ (by omega), Option.bind_some, if_pos rfl, nonce_spec 7 (by decide) (by decide), Option.bind_some, key_spec, kk_ok, Option.bind_some]
  simp only []
  rw [if_pos trivial]
  exact send_loop bodies order ho hol 60 0 rfl _ 0 0 [] rfl (by omega) (fun j y h => by simp at h) (by simp) rfl
end Go.Proofs.Ytimfhdpgkoonaaa.Pure
