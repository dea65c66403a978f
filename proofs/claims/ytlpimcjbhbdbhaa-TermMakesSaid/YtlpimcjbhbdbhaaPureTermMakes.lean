/- TermMakes: nonces, constants and what is made of any terms: the program's are the reference's. No condition but that the number is a uint16. -/
import Derived.Test.YtlpimcjbhbdbhaaEvConst
import Derived.Test.YtlpimcjbhbdbhaaPrx4
set_option linter.unusedVariables false
set_option linter.unusedSimpArgs false
namespace Go.Proofs.Ytlpimcjbhbdbhaa.Pure
open Go.RowKit Go.Proofs.Ytlpimcjbhbdbhaa.Pr Go.Proofs.YtlpimcjbhbdbhaaW.PrintWords Go.Proofs.YtlpimcjbhbdbhaaW.PrintLast Go.Proofs.YtlpimcjbhbdbhaaW.PrintMore Go.Proofs.Ytlpimcjbhbdbhaa.Ev03 Go.Proofs.Ytlpimcjbhbdbhaa.TT

theorem makes_round (k : Nat) (hk : 4000 ≤ k) (c : Int) (h0 : 0 ≤ c) (h1 : c < 256) (l : List ByteArray) (hl : l.length ≤ 1000) (r : List Int) (n : Nat) (hn : n < r.length) (hr : r.length ≤ 1000) (hc : rd r (n : Int) = c) :
    chantrylaw03_TermMakes.l1 (k + 1) l r (r.length : Int) (n : Int) = chantrylaw03_TermMakes.l1 k l r (r.length : Int) ((n + 1 : Nat) : Int) := by
  have E : Hid (wrap64 ((n : Int) + 1) = ((n + 1 : Nat) : Int)) := by apply Lib.hid; rw [wr (by omega) (by omega)]; omega
  have hm : term_Make.f c l = some (makeOf (UInt8.ofNat c.toNat) l) := by unfold term_Make.f; rw [if_pos ⟨h0, by omega⟩]
  have hq : ((UInt8.ofNat c.toNat).toNat : Int) = c := by
    rw [UInt8.toNat_ofNat']; omega
  have hf := ref_make_spec k hk (UInt8.ofNat c.toNat) l hl
  rw [hq] at hf
  simp only [chantrylaw03_TermMakes.l1]
  rw [if_pos (by omega), if_pos (by omega), if_pos (by omega), hc, hm, Option.bind_some, hf, Option.bind_some, if_pos rfl, if_pos rfl, E.out]
theorem makes_loop (l : List ByteArray) (hl : l.length ≤ 1000) (r : List Int) (hr : r.length ≤ 1000) (hc : ∀ n : Nat, n < r.length → 0 ≤ rd r (n : Int) ∧ rd r (n : Int) < 256) : ∀ (d k n : Nat), r.length - n = d → n ≤ r.length → 4000 + d < k → chantrylaw03_TermMakes.l1 k l r (r.length : Int) (n : Int) = some true := by
  intro d
  induction d with
  | zero =>
    intro k n hd hn hk
    obtain ⟨k, rfl⟩ : ∃ m, k = m + 1 := ⟨k - 1, by omega⟩
    simp only [chantrylaw03_TermMakes.l1]
    rw [if_neg (by omega)]
  | succ d ih =>
    intro k n hd hn hk
    obtain ⟨k, rfl⟩ : ∃ m, k = m + 1 := ⟨k - 1, by omega⟩
    obtain ⟨c0, c1⟩ := hc n (by omega)
    rw [makes_round k (by omega) _ c0 c1 l hl r n (by omega) hr rfl]
    exact ih k (n + 1) (by omega) (by omega) (by omega)
theorem makes_all (k : Nat) (hk : 5000 ≤ k) (a0 : Int) (h0 : 0 ≤ a0) (h1 : a0 < 65536) (a1 : ByteArray) (l : List ByteArray) (hl : l.length ≤ 1000) :
    ((term_NewConst.f a1).bind fun bt210 => ((chantryref03_Const.f a1).bind fun bt212 => ((term_NewNonce.f a0).bind fun t214 => ((chantryref03_Nonce.f a0).bind fun t215 => (if t214.toList = t215.toList then (if bt210.1.toList = bt212.1.toList then (chantrylaw03_TermMakes.j2 k a0 l (bt210.2 != bt212.2)) else (chantrylaw03_TermMakes.j2 k a0 l true)) else (chantrylaw03_TermMakes.j2 k a0 l true)))))) = some true := by
  obtain ⟨k, rfl⟩ : ∃ m, k = m + 1 := ⟨k - 1, by omega⟩
  rw [const_spec, ref_const_spec, nonce_spec a0 h0 h1, ref_nonce_spec a0 h0 h1]
  simp only [Option.bind_some]
  rw [if_pos trivial, if_pos trivial, bne_self_eq_false]
  simp only [chantrylaw03_TermMakes.j2]
  rw [if_neg (by decide)]
  refine makes_loop l hl _ (by simp) ?_ 9 k 0 (by simp) (by simp) (by omega)
  intro n hn
  simp only [List.length_cons, List.length_nil] at hn
  match n, hn with
  | 0, _ => exact ⟨show (0 : Int) ≤ 110 by decide, show (110 : Int) < 256 by decide⟩
  | 1, _ => exact ⟨show (0 : Int) ≤ 99 by decide, show (99 : Int) < 256 by decide⟩
  | 2, _ => exact ⟨show (0 : Int) ≤ 104 by decide, show (104 : Int) < 256 by decide⟩
  | 3, _ => exact ⟨show (0 : Int) ≤ 100 by decide, show (100 : Int) < 256 by decide⟩
  | 4, _ => exact ⟨show (0 : Int) ≤ 109 by decide, show (109 : Int) < 256 by decide⟩
  | 5, _ => exact ⟨show (0 : Int) ≤ 115 by decide, show (115 : Int) < 256 by decide⟩
  | 6, _ => exact ⟨show (0 : Int) ≤ 112 by decide, show (112 : Int) < 256 by decide⟩
  | 7, _ => exact ⟨show (0 : Int) ≤ 120 by decide, show (120 : Int) < 256 by decide⟩
  | 8, _ => exact ⟨Int.emod_nonneg _ (by decide), Int.emod_lt_of_pos _ (by decide)⟩
theorem makes_first (a0 : Int) (h0 : 0 ≤ a0) (h1 : a0 < 65536) (a1 : ByteArray) (l : List ByteArray) (hl : l.length ≤ 1000) : ∀ (d k n : Nat), l.length - n = d → n ≤ l.length → 5000 + d < k → chantrylaw03_TermMakes.l0 k a0 a1 l l (l.length : Int) (n : Int) = some true := by
  intro d
  induction d with
  | zero =>
    intro k n hd hn hk
    obtain ⟨k, rfl⟩ : ∃ m, k = m + 1 := ⟨k - 1, by omega⟩
    simp only [chantrylaw03_TermMakes.l0]
    rw [if_neg (by omega)]
    exact makes_all k (by omega) a0 h0 h1 a1 l hl
  | succ d ih =>
    intro k n hd hn hk
    obtain ⟨k, rfl⟩ : ∃ m, k = m + 1 := ⟨k - 1, by omega⟩
    have E : Hid (wrap64 ((n : Int) + 1) = ((n + 1 : Nat) : Int)) := by apply Lib.hid; rw [wr (by omega) (by omega)]; omega
    simp only [chantrylaw03_TermMakes.l0]
    rw [if_pos (by omega), if_pos (by omega), if_pos (by omega), E.out]
    split
    · rfl
    · exact ih k (n + 1) (by omega) (by omega) (by omega)
theorem TermMakes (a0 : Int) (h0 : 0 ≤ a0) (h1 : a0 < 65536) (a1 : ByteArray) (l : List ByteArray) : ∃ k, chantrylaw03_TermMakes.f k a0 a1 l = some true := by
  refine ⟨6000, ?_⟩
  have key : ∀ b, (¬ b = true → l.length ≤ 5) → chantrylaw03_TermMakes.j0 6000 a0 a1 l b = some true := by
    intro b hb
    simp only [chantrylaw03_TermMakes.j0]
    by_cases h : b = true
    · rw [if_pos h]
    · rw [if_neg h]
      have := hb h
      exact makes_first a0 h0 h1 a1 l (by omega) l.length 5999 0 (by omega) (by omega) (by omega)
  unfold chantrylaw03_TermMakes.f
  rw [alive_spec, Option.bind_some, if_pos rfl, key true (fun h => absurd rfl h), key _ (fun h => by simp at h; omega)]
  split <;> rfl
end Go.Proofs.Ytlpimcjbhbdbhaa.Pure
