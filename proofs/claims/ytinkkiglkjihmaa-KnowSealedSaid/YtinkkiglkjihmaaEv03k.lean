/- The reference's Parts: what it comes to. -/
import Derived.Test.YtinkkiglkjihmaaEv03
import Derived.Test.YtinkkiglkjihmaaParts
import Derived.Test.YtinkkiglkjihmaaPrxC
import Derived.Test.YtinkkiglkjihmaaPrxA
set_option linter.unusedVariables false
set_option linter.unusedSimpArgs false
namespace Go.Proofs.Ytinkkiglkjihmaa.Ev03
open Go.RowKit Go.Proofs.Ytinkkiglkjihmaa.Pr Go.Proofs.YtinkkiglkjihmaaW.PrintWords Go.Proofs.YtinkkiglkjihmaaW.PrintLast Go.Proofs.YtinkkiglkjihmaaW.PrintMore Go.Proofs.Ytinkkiglkjihmaa.TT

theorem str_size (t : Tm) : t.str.size = t.enc.length := by rw [Tm.str, strOf_size]
theorem str_data (t : Tm) : t.str.data.toList = t.enc := by rw [Tm.str, strOf_data]
theorem cut_str {s : ByteArray} {p : Nat} {t : Tm} {r : List UInt8} (hd : s.data.toList.drop p = t.enc ++ r) : s.extract p (p + t.enc.length) = t.str := by
  have h3 : (s.extract p (p + t.enc.length)).data.toList = t.enc := by
    rw [ByteArray.data_extract, Array.toList_extract, List.extract_eq_take_drop, hd, Nat.add_sub_cancel_left, List.take_left]
  refine Eq.trans (strOf_of _).symm ?_
  rw [h3]; rfl
theorem bt_zero (t : Tm) : 0 < t.str.size ∧ bt t.str 0 = (t.kind.toNat : Int) := by
  have hd : t.str.data.toList.drop 0 = t.enc ++ [] := by rw [str_data]; simp
  exact bt_kind hd

/-- One round of Parts' loop. -/
theorem parts_round (k : Nat) (s : ByteArray) (hs : s.size ≤ 2000) (hk : 3000 ≤ k) (h0 : 0 < s.size) (c : UInt8) (hb : Hid (bt s 0 = (c.toNat : Int))) (out : List ByteArray) (hout : out.length ≤ 10) (p i : Nat) (t : Tm) (ho : t.ok) (r : List UInt8) (hd : s.data.toList.drop p = t.enc ++ r) (hi : (i : Int) < ar c) :
    chantryref03_Parts.l0 (k + 1) s out (p : Int) (i : Int) = chantryref03_Parts.l0 k s (out ++ [t.str]) ((p + t.enc.length : Nat) : Int) ((i + 1 : Nat) : Int) := by
  have hlen : p + (t.enc ++ r).length = s.size := by
    have := bt_kind hd
    exact drop_len (by omega) hd
  rw [List.length_append] at hlen
  have ha : ar c ≤ 2 := by unfold ar; split <;> (try split) <;> (try split) <;> omega
  have E : Hid (wrap64 ((i : Int) + 1) = ((i + 1 : Nat) : Int)) := by apply Lib.hid; rw [wr (by omega) (by omega)]; omega
  simp only [chantryref03_Parts.l0]
  rw [if_pos (by omega), hb.out, need_spec k (by omega), Option.bind_some, if_pos hi, end_at k s (by omega) (by omega) p t ho r hd, Option.bind_some, if_pos (by omega), if_pos (by omega), if_pos (by omega), if_pos (by omega), E.out]
  rw [show ((p : Int)).toNat = p from Int.toNat_natCast p, show (((p + t.enc.length : Nat) : Int)).toNat = p + t.enc.length from Int.toNat_natCast _, cut_str hd]
theorem parts_last (k : Nat) (s : ByteArray) (hk : 3000 ≤ k) (h0 : 0 < s.size) (c : UInt8) (hb : Hid (bt s 0 = (c.toNat : Int))) (out : List ByteArray) (p : Int) (i : Int) (hi : i = ar c) :
    chantryref03_Parts.l0 (k + 1) s out p i = some ((c.toNat : Int), out, 0) := by
  simp only [chantryref03_Parts.l0]
  rw [if_pos (by omega), hb.out, need_spec k (by omega), Option.bind_some, if_neg (by omega)]

theorem ref_parts_spec (k : Nat) (hk : 4000 ≤ k) (s : ByteArray) : chantryref03_Parts.f k s = some (partsOf s) := by
  unfold chantryref03_Parts.f
  rw [check_spec k (by omega), Option.bind_some]
  by_cases hc : check s = 0
  · obtain ⟨t, hr, ho, rfl, hdp, hl⟩ := check_ok hc
    rw [if_pos hc, partsOf_ok hc hr]
    obtain ⟨h0, hb⟩ := bt_zero t
    have HB := Lib.hid hb; clear hb
    have hsz := str_size t
    have hd : t.str.data.toList.drop 0 = t.enc ++ [] := by rw [str_data]; simp
    have hown := own_spec k (by omega) t.str (by omega) 0 (by omega)
    rw [hd, tok_enc ho] at hown
    rw [show ((0 : Nat) : Int) = 0 from rfl] at hown
    rw [hown, Option.bind_some]
    clear hown
    obtain ⟨k, rfl⟩ : ∃ m, k = m + 3 := ⟨k - 3, by omega⟩
    cases t with
    | nonce a b => exact parts_last (k + 2) _ (by omega) h0 _ HB [] _ 0 rfl
    | const l => exact parts_last (k + 2) _ (by omega) h0 _ HB [] _ 0 rfl
    | hash t =>
      have hd1 : (Tm.hash t).str.data.toList.drop 1 = t.enc ++ [] := (drop_cons (c := 104) hd).2.2
      have e := parts_round (k + 2) _ (by omega) (by omega) h0 _ HB [] (by simp) 1 0 t ho [] hd1 (by rw [show ar (Tm.hash t).kind = 1 from rfl]; decide)
      refine Eq.trans e ?_
      exact parts_last (k + 1) _ (by omega) h0 _ HB _ _ _ rfl
    | two c a b =>
      have hd1 : (Tm.two c a b).str.data.toList.drop 1 = a.enc ++ (b.enc ++ []) := by
        have := (drop_cons (c := c) hd).2.2
        exact this.trans (List.append_assoc _ _ _)
      have hd2 : (Tm.two c a b).str.data.toList.drop (1 + a.enc.length) = b.enc ++ [] := drop_add hd1 rfl
      have hac : ar (Tm.two c a b).kind = 2 := by rw [ar_kind ho]; rfl
      have e := parts_round (k + 2) _ (by omega) (by omega) h0 _ HB [] (by simp) 1 0 a ho.2.1 _ hd1 (by rw [hac]; decide)
      refine Eq.trans e ?_
      have e2 := parts_round (k + 1) _ (by omega) (by omega) h0 _ HB [a.str] (by simp) (1 + a.enc.length) 1 b ho.2.2 _ hd2 (by rw [hac]; decide)
      refine Eq.trans e2 ?_
      exact parts_last k _ (by omega) h0 _ HB _ _ _ (by rw [hac]; rfl)
  · rw [if_neg hc, partsOf_bad hc]

/-! ### Subs -/
theorem subs_round (k : Nat) (s : ByteArray) (hs : s.size ≤ 2000) (hk : 3000 ≤ k) (out : List ByteArray) (hout : out.length ≤ 10000) (p : Nat) (t : Tm) (ho : t.ok) (r : List UInt8) (hd : s.data.toList.drop p = t.enc ++ r) :
    chantryref03_Subs.l0 (k + 1) s out (p : Int) = chantryref03_Subs.l0 k s (out ++ [t.str]) ((p + tokLen t : Nat) : Int) := by
  obtain ⟨hp, _⟩ := bt_kind hd
  have hlen : p + (t.enc ++ r).length = s.size := drop_len (by omega) hd
  rw [List.length_append] at hlen
  have htk : tokLen t ≤ t.enc.length := by rw [enc_tok t]; omega
  have hown := own_spec k (by omega) s (by omega) p (by omega)
  rw [hd, tok_enc ho] at hown
  have E : Hid (wrap64 ((p : Int) + (tokLen t : Int)) = ((p + tokLen t : Nat) : Int)) := by apply Lib.hid; rw [wr (by omega) (by omega)]; omega
  simp only [chantryref03_Subs.l0]
  rw [if_pos (by omega), end_at k s (by omega) (by omega) p t ho r hd, Option.bind_some, if_pos (by omega), if_pos (by omega), if_pos (by omega), if_pos (by omega), hown, Option.bind_some, E.out]
  rw [show ((p : Int)).toNat = p from Int.toNat_natCast p, show (((p + t.enc.length : Nat) : Int)).toNat = p + t.enc.length from Int.toNat_natCast _, cut_str hd]
theorem subs_loop : ∀ (t : Tm) (s : ByteArray) (p : Nat) (r : List UInt8) (out : List ByteArray), s.size ≤ 2000 → t.ok → s.data.toList.drop p = t.enc ++ r → out.length ≤ p →
    ∃ j, j ≤ t.enc.length ∧ ∀ k, 3000 ≤ k → chantryref03_Subs.l0 (k + j) s out (p : Int) = chantryref03_Subs.l0 k s (out ++ t.subs.map Tm.str) ((p + t.enc.length : Nat) : Int)
  | .nonce a b, s, p, r, out, hs, ho, hd, hout => by
    obtain ⟨hp, _⟩ := bt_kind hd
    exact ⟨1, by simp [Tm.enc], fun k hk => subs_round k s hs hk out (by omega) p _ ho r hd⟩
  | .const l, s, p, r, out, hs, ho, hd, hout => by
    obtain ⟨hp, _⟩ := bt_kind hd
    refine ⟨1, by simp [Tm.enc], fun k hk => ?_⟩
    rw [subs_round k s hs hk out (by omega) p _ ho r hd, enc_tok]
    rfl
  | .hash t, s, p, r, out, hs, ho, hd, hout => by
    obtain ⟨hp, _⟩ := bt_kind hd
    have hd1 : s.data.toList.drop (p + 1) = t.enc ++ r := (drop_cons (c := 104) hd).2.2
    obtain ⟨j, hj, h⟩ := subs_loop t s (p + 1) r (out ++ [(Tm.hash t).str]) hs ho hd1 (by simp; omega)
    refine ⟨j + 1, by simp [Tm.enc]; omega, fun k hk => ?_⟩
    rw [← Nat.add_assoc, subs_round (k + j) s hs (by omega) out (by omega) p _ ho r hd]
    have := h k hk
    simp only [tokLen]
    rw [this]
    simp only [Tm.enc, List.length_cons, Tm.subs, List.map_cons, List.append_assoc, List.singleton_append]
    rw [show p + 1 + t.enc.length = p + (t.enc.length + 1) by omega]
  | .two c a b, s, p, r, out, hs, ho, hd, hout => by
    obtain ⟨hp, _⟩ := bt_kind hd
    have hd1 : s.data.toList.drop (p + 1) = a.enc ++ (b.enc ++ r) := by
      have := (drop_cons (c := c) hd).2.2
      exact this.trans (List.append_assoc _ _ _)
    have hd2 : s.data.toList.drop (p + 1 + a.enc.length) = b.enc ++ r := drop_add hd1 rfl
    have hsa := a.subs_len
    obtain ⟨j1, hj1, h1⟩ := subs_loop a s (p + 1) _ (out ++ [(Tm.two c a b).str]) hs ho.2.1 hd1 (by simp; omega)
    obtain ⟨j2, hj2, h2⟩ := subs_loop b s (p + 1 + a.enc.length) r (out ++ [(Tm.two c a b).str] ++ a.subs.map Tm.str) hs ho.2.2 hd2 (by simp; omega)
    refine ⟨j2 + j1 + 1, by simp [Tm.enc]; omega, fun k hk => ?_⟩
    rw [show k + (j2 + j1 + 1) = k + j2 + j1 + 1 by omega, subs_round (k + j2 + j1) s hs (by omega) out (by omega) p _ ho r hd]
    have e1 := h1 (k + j2) (by omega)
    have e2 := h2 k hk
    simp only [tokLen]
    rw [e1, e2]
    simp only [Tm.enc, List.length_cons, List.length_append, Tm.subs, List.map_cons, List.map_append, List.append_assoc, List.singleton_append, List.cons_append]
    rw [show p + 1 + a.enc.length + b.enc.length = p + (a.enc.length + b.enc.length + 1) by omega]
    simp

theorem ref_subs_spec (k : Nat) (hk : 6000 ≤ k) (s : ByteArray) : chantryref03_Subs.f k s = some (subsOf s) := by
  unfold chantryref03_Subs.f
  rw [check_spec k (by omega), Option.bind_some]
  by_cases hc : check s = 0
  · obtain ⟨t, hr, ho, rfl, hdp, hl⟩ := check_ok hc
    rw [if_pos hc, subsOf_ok hc hr]
    have hsz := str_size t
    have hd : t.str.data.toList.drop 0 = t.enc ++ [] := by rw [str_data]; simp
    obtain ⟨j, hj, h⟩ := subs_loop t t.str 0 [] [] (by omega) ho hd (by simp)
    have := h (k - j) (by omega)
    rw [show k - j + j = k by omega] at this
    refine Eq.trans this ?_
    obtain ⟨q, hq⟩ : ∃ q, k - j = q + 1 := ⟨k - j - 1, by omega⟩
    rw [hq]
    simp only [chantryref03_Subs.l0]
    rw [if_neg (by omega)]
    simp
  · rw [if_neg hc, subsOf_bad hc]
theorem same_loop (l : List ByteArray) (hl : l.length ≤ 100000) : ∀ (d k i : Nat), l.length - i = d → i ≤ l.length → d < k → chantrylaw03_Same.l0 k l l (l.length : Int) (i : Int) = some true := by
  intro d
  induction d with
  | zero =>
    intro k i hd hi hk
    obtain ⟨k, rfl⟩ : ∃ m, k = m + 1 := ⟨k - 1, by omega⟩
    simp only [chantrylaw03_Same.l0]
    rw [if_neg (by omega)]
  | succ d ih =>
    intro k i hd hi hk
    obtain ⟨k, rfl⟩ : ∃ m, k = m + 1 := ⟨k - 1, by omega⟩
    have E : Hid (wrap64 ((i : Int) + 1) = ((i + 1 : Nat) : Int)) := by apply Lib.hid; rw [wr (by omega) (by omega)]; omega
    simp only [chantrylaw03_Same.l0]
    rw [if_pos (by omega), if_pos (by omega), if_pos (by omega), if_pos (by omega), if_pos trivial, E.out]
    exact ih k (i + 1) (by omega) (by omega) (by omega)
theorem same_self (k : Nat) (l : List ByteArray) (hl : l.length ≤ 100000) (hk : l.length < k) : chantrylaw03_Same.f k l l = some true := by
  unfold chantrylaw03_Same.f
  rw [if_pos rfl]
  exact same_loop l hl l.length k 0 (by omega) (by omega) hk
def nonceOf (a : Int) : ByteArray := (Tm.nonce (UInt8.ofNat (a / 256).toNat) (UInt8.ofNat (a % 256).toNat)).str
theorem nonce_spec (a : Int) (h0 : 0 ≤ a) (h1 : a < 65536) : term_NewNonce.f a = some (nonceOf a) := by
  unfold term_NewNonce.f nonceOf strOfNums Tm.str Tm.enc TT.strOf
  have : a / 256 % 256 = a / 256 := by omega
  rw [this]
  rfl
theorem ref_nonce_spec (a : Int) (h0 : 0 ≤ a) (h1 : a < 65536) : chantryref03_Nonce.f a = some (nonceOf a) := by
  have e1 : IntKind.u16.wrap (Int.tdiv a 256) % 256 = a / 256 % 256 := by
    rw [Int.tdiv_eq_ediv_of_nonneg h0]
    have : IntKind.u16.wrap (a / 256) = a / 256 := by simp [IntKind.wrap, IntKind.bits, IntKind.signed]; omega
    rw [this]
  have e2 : Int.tmod a 256 % 256 = a % 256 := by rw [Int.tmod_eq_emod_of_nonneg h0]; omega
  rw [← nonce_spec a h0 h1]
  unfold term_NewNonce.f chantryref03_Nonce.f
  rw [e1, e2]
end Go.Proofs.Ytinkkiglkjihmaa.Ev03
