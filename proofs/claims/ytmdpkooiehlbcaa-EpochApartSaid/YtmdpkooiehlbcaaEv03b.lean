/- The reference's Parts, Make and Open, and the program's Open: what they come to. -/
import Derived.Test.YtmdpkooiehlbcaaEv03
import Derived.Test.YtmdpkooiehlbcaaParts
import Derived.Test.YtmdpkooiehlbcaaPrx9
import Derived.Test.YtmdpkooiehlbcaaPrx6
import Derived.Test.YtmdpkooiehlbcaaPrx3
set_option linter.unusedVariables false
set_option linter.unusedSimpArgs false
namespace Go.Proofs.Ytmdpkooiehlbcaa.Ev03
open Go.RowKit Go.Proofs.Ytmdpkooiehlbcaa.Pr Go.Proofs.YtmdpkooiehlbcaaW.PrintWords Go.Proofs.YtmdpkooiehlbcaaW.PrintLast Go.Proofs.YtmdpkooiehlbcaaW.PrintMore Go.Proofs.Ytmdpkooiehlbcaa.TT

theorem str_size (t : Tm) : t.str.size = t.enc.length := by rw [Tm.str, strOf_size]
theorem str_data (t : Tm) : t.str.data.toList = t.enc := by rw [Tm.str, strOf_data]
theorem cut_str {s : ByteArray} {p : Nat} {t : Tm} {r : List UInt8} (hd : s.data.toList.drop p = t.enc ++ r) : s.extract p (p + t.enc.length) = t.str := by
  have h3 : (s.extract p (p + t.enc.length)).data.toList = t.enc := by
    rw [ByteArray.data_extract, Array.toList_extract, List.extract_eq_take_drop, hd, Nat.add_sub_cancel_left, List.take_left]
  refine Eq.trans (strOf_of _).symm ?_
  rw [h3]; rfl
theorem bt_zero (t : Tm) : 0 < t.str.size ∧ bt t.str 0 = (t.kind.toNat : Int) := by
  have hd : t.str.data.toList.drop 0 = t.enc ++ [] := by rw [str_data]; simp
  exact bt_kind hd

/-- One round of Parts' loop. -/
theorem parts_round (k : Nat) (s : ByteArray) (hs : s.size ≤ 2000) (hk : 3000 ≤ k) (h0 : 0 < s.size) (c : UInt8) (hb : Hid (bt s 0 = (c.toNat : Int))) (out : List ByteArray) (hout : out.length ≤ 10) (p i : Nat) (t : Tm) (ho : t.ok) (r : List UInt8) (hd : s.data.toList.drop p = t.enc ++ r) (hi : (i : Int) < ar c) :
    chantryref03_Parts.l0 (k + 1) s out (p : Int) (i : Int) = chantryref03_Parts.l0 k s (out ++ [t.str]) ((p + t.enc.length : Nat) : Int) ((i + 1 : Nat) : Int) := by
  have hlen : p + (t.enc ++ r).length = s.size := by
    have := bt_kind hd
    exact drop_len (by omega) hd
  rw [List.length_append] at hlen
  have ha : ar c ≤ 2 := by unfold ar; split <;> (try split) <;> (try split) <;> omega
  have E : Hid (wrap64 ((i : Int) + 1) = ((i + 1 : Nat) : Int)) := by apply Lib.hid; rw [wr (by omega) (by omega)]; omega
  simp only [chantryref03_Parts.l0]
  rw [if_pos (by omega), hb.out, need_spec k (by omega), Option.bind_some, if_pos hi, end_at k s (by omega) (by omega) p t ho r hd, Option.bind_some, if_pos (by omega), if_pos (by omega), if_pos (by omega), if_pos (by omega), E.out]
  rw [show ((p : Int)).toNat = p from Int.toNat_natCast p, show (((p + t.enc.length : Nat) : Int)).toNat = p + t.enc.length from Int.toNat_natCast _, cut_str hd]
theorem parts_last (k : Nat) (s : ByteArray) (hk : 3000 ≤ k) (h0 : 0 < s.size) (c : UInt8) (hb : Hid (bt s 0 = (c.toNat : Int))) (out : List ByteArray) (p : Int) (i : Int) (hi : i = ar c) :
    chantryref03_Parts.l0 (k + 1) s out p i = some ((c.toNat : Int), out, 0) := by
  simp only [chantryref03_Parts.l0]
  rw [if_pos (by omega), hb.out, need_spec k (by omega), Option.bind_some, if_neg (by omega)]

theorem ref_parts_spec (k : Nat) (hk : 4000 ≤ k) (s : ByteArray) : chantryref03_Parts.f k s = some (partsOf s) := by
  unfold chantryref03_Parts.f
  rw [check_spec k (by omega), Option.bind_some]
  by_cases hc : check s = 0
  · obtain ⟨t, hr, ho, rfl, hdp, hl⟩ := check_ok hc
    rw [if_pos hc, partsOf_ok hc hr]
    obtain ⟨h0, hb⟩ := bt_zero t
    have HB := Lib.hid hb; clear hb
    have hsz := str_size t
    have hd : t.str.data.toList.drop 0 = t.enc ++ [] := by rw [str_data]; simp
    have hown := own_spec k (by omega) t.str (by omega) 0 (by omega)
    rw [hd, tok_enc ho] at hown
    rw [show ((0 : Nat) : Int) = 0 from rfl] at hown
    rw [hown, Option.bind_some]
    clear hown
    obtain ⟨k, rfl⟩ : ∃ m, k = m + 3 := ⟨k - 3, by omega⟩
    cases t with
    | nonce a b => exact parts_last (k + 2) _ (by omega) h0 _ HB [] _ 0 rfl
    | const l => exact parts_last (k + 2) _ (by omega) h0 _ HB [] _ 0 rfl
    | hash t =>
      have hd1 : (Tm.hash t).str.data.toList.drop 1 = t.enc ++ [] := (drop_cons (c := 104) hd).2.2
      have e := parts_round (k + 2) _ (by omega) (by omega) h0 _ HB [] (by simp) 1 0 t ho [] hd1 (by rw [show ar (Tm.hash t).kind = 1 from rfl]; decide)
      refine Eq.trans e ?_
      exact parts_last (k + 1) _ (by omega) h0 _ HB _ _ _ rfl
    | two c a b =>
      have hd1 : (Tm.two c a b).str.data.toList.drop 1 = a.enc ++ (b.enc ++ []) := by
        have := (drop_cons (c := c) hd).2.2
        exact this.trans (List.append_assoc _ _ _)
      have hd2 : (Tm.two c a b).str.data.toList.drop (1 + a.enc.length) = b.enc ++ [] := drop_add hd1 rfl
      have hac : ar (Tm.two c a b).kind = 2 := by rw [ar_kind ho]; rfl
      have e := parts_round (k + 2) _ (by omega) (by omega) h0 _ HB [] (by simp) 1 0 a ho.2.1 _ hd1 (by rw [hac]; decide)
      refine Eq.trans e ?_
      have e2 := parts_round (k + 1) _ (by omega) (by omega) h0 _ HB [a.str] (by simp) (1 + a.enc.length) 1 b ho.2.2 _ hd2 (by rw [hac]; decide)
      refine Eq.trans e2 ?_
      exact parts_last k _ (by omega) h0 _ HB _ _ _ (by rw [hac]; rfl)
  · rw [if_neg hc, partsOf_bad hc]

/-! ### Make -/
theorem rdOf_0 (s : ByteArray) (l : List ByteArray) : rdOf ByteArray.empty (s :: l) 0 = s := rfl
theorem rdOf_1 (s u : ByteArray) (l : List ByteArray) : rdOf ByteArray.empty (s :: u :: l) 1 = u := rfl
theorem nums_one (c : UInt8) : strOfNums [(c.toNat : Int)] = strOf [c] := by
  unfold strOfNums strOf
  first | done | (rw [List.map_cons, List.map_nil, Int.toNat_natCast, UInt8.ofNat_toNat])
theorem strOf_app (l : List UInt8) (s : ByteArray) : strOf l ++ s = strOf (l ++ s.data.toList) := by
  apply ByteArray.ext
  apply Array.ext'
  rw [ByteArray.data_append, Array.toList_append, strOf_data, strOf_data]
theorem check_small {s : ByteArray} (h : check s = 0) : s.size ≤ 2000 := by
  unfold check at h
  split at h
  · omega
  · omega

theorem ref_make_spec (k : Nat) (hk : 4000 ≤ k) (c : UInt8) (l : List ByteArray) (hl : l.length ≤ 1000) : chantryref03_Make.f k (c.toNat : Int) l = some (makeOf c l) := by
  obtain ⟨k, rfl⟩ : ∃ m, k = m + 4 := ⟨k - 4, by omega⟩
  have ha : ar c ≤ 2 := by unfold ar; split <;> (try split) <;> (try split) <;> omega
  unfold chantryref03_Make.f
  rw [need_spec _ (by omega), Option.bind_some]
  by_cases h1 : ar c < 1
  · rw [if_pos h1]
    simp only [chantryref03_Make.j0]
    rw [if_pos trivial]
    unfold makeOf
    rw [if_pos (.inl h1)]
  rw [if_neg h1, Option.bind_some]
  by_cases h2 : ar c = (l.length : Int)
  · have hb : (ar c != (l.length : Int)) = false := by rw [h2]; exact bne_self_eq_false _
    rw [hb]
    simp only [chantryref03_Make.j0]
    rw [if_neg (by decide), nums_one]
    have hm : makeOf c l = match l.find? (fun s => decide (check s ≠ 0)) with
      | some s => (⟨#[]⟩, check s)
      | none => if check (strOf (c :: (l.map fun s => s.data.toList).flatten)) = 0 then (strOf (c :: (l.map fun s => s.data.toList).flatten), 0) else (⟨#[]⟩, 3) := by
      unfold makeOf; rw [if_neg (by omega)]; rfl
    rw [hm]
    match l, h2, hl with
    | [], h2, _ => simp at h2; omega
    | [s], h2, _ =>
      simp only [chantryref03_Make.l0, List.length_cons, List.length_nil]
      rw [if_pos (by decide), if_pos (by decide), rdOf_0, check_spec _ (by omega), Option.bind_some]
      by_cases hc : check s = 0
      · have hsz := check_small hc
        rw [if_pos hc, if_pos (by rw [strOf_size]; simp; omega), show wrap64 (0 + 1) = 1 from wr (by omega) (by omega), if_neg (by decide), strOf_app, check_spec _ (by omega), Option.bind_some]
        have hf : [s].find? (fun s => decide (check s ≠ 0)) = none := by simp [hc]
        rw [hf]
        have e : ([s].map fun s => s.data.toList).flatten = s.data.toList := by simp
        rw [e]
        simp only [List.singleton_append]
        by_cases h5 : check (strOf (c :: s.data.toList)) = 0
        · rw [if_pos h5]; (try simp only); rw [if_pos h5]
        · rw [if_neg h5]; (try simp only); rw [if_neg h5]
      · rw [if_neg hc]
        have hf : [s].find? (fun s => decide (check s ≠ 0)) = some s := by simp [hc]
        rw [hf]
    | [s, u], h2, _ =>
      simp only [chantryref03_Make.l0, List.length_cons, List.length_nil]
      rw [if_pos (by decide), if_pos (by decide), rdOf_0, check_spec _ (by omega), Option.bind_some]
      by_cases hc : check s = 0
      · have hsz := check_small hc
        rw [if_pos hc, if_pos (by rw [strOf_size]; simp; omega), show wrap64 (0 + 1) = 1 from wr (by omega) (by omega), if_pos (by decide), if_pos (by decide), rdOf_1, strOf_app, check_spec _ (by omega), Option.bind_some]
        by_cases hd : check u = 0
        · have hsu := check_small hd
          have hq : s.data.toList.length = s.size := len_eq s
          rw [if_pos hd, if_pos (by rw [strOf_size]; simp; omega), show wrap64 (1 + 1) = 2 from wr (by omega) (by omega), if_neg (by decide), strOf_app, check_spec _ (by omega), Option.bind_some]
          have hf : [s, u].find? (fun s => decide (check s ≠ 0)) = none := by simp [hc, hd]
          rw [hf]
          have e : ([s, u].map fun s => s.data.toList).flatten = s.data.toList ++ u.data.toList := by simp
          rw [e]
          simp only [List.singleton_append, List.cons_append, List.nil_append]
          by_cases h5 : check (strOf (c :: (s.data.toList ++ u.data.toList))) = 0
          · rw [if_pos h5]; (try simp only); rw [if_pos h5]
          · rw [if_neg h5]; (try simp only); rw [if_neg h5]
        · rw [if_neg hd]
          have hf : [s, u].find? (fun s => decide (check s ≠ 0)) = some u := by simp [hc, hd]
          rw [hf]
      · rw [if_neg hc]
        have hf : [s, u].find? (fun s => decide (check s ≠ 0)) = some s := by simp [hc]
        rw [hf]
    | s :: u :: v :: r, h2, _ => simp only [List.length_cons] at h2; omega
  · have hb : (ar c != (l.length : Int)) = true := by simpa using h2
    rw [hb]
    simp only [chantryref03_Make.j0]
    rw [if_pos trivial]
    unfold makeOf
    rw [if_pos (.inr h2)]

/-! ### Open -/
def openOf (key s : ByteArray) : ByteArray × Int :=
  if check key = 0 then
    (if check s = 0 then
      (match read s with
        | some (.two k a b) => if k = 115 then (if a.str = key then (b.str, 0) else (⟨#[]⟩, 12)) else (⟨#[]⟩, 4)
        | _ => (⟨#[]⟩, 4))
     else (⟨#[]⟩, check s))
  else (⟨#[]⟩, check key)
theorem toList_iff (a b : ByteArray) : a.toList = b.toList ↔ a = b := by
  rw [Go.ByteArray.toList_eq, Go.ByteArray.toList_eq]
  constructor
  · intro h
    apply ByteArray.ext
    exact Array.ext' h
  · rintro rfl; rfl

/-- What both functions do with the parts. -/
theorem open_parts (key s : ByteArray) (hk : check key = 0) : (if (partsOf s).2.2 = 0 then (if (partsOf s).1 = 115 then (if 0 < ((partsOf s).2.1.length : Int) then (if (rdOf ByteArray.empty (partsOf s).2.1 0).toList = key.toList then (if 1 < ((partsOf s).2.1.length : Int) then (some (rdOf ByteArray.empty (partsOf s).2.1 1, (0 : Int))) else (none)) else (some ((⟨#[]⟩ : ByteArray), 12))) else (none)) else (some ((⟨#[]⟩ : ByteArray), 4))) else (some ((⟨#[]⟩ : ByteArray), (partsOf s).2.2))) = some (openOf key s) := by
  unfold openOf
  rw [if_pos hk]
  by_cases hc : check s = 0
  · obtain ⟨t, hr, ho, _⟩ := check_ok hc
    rw [if_pos hc, partsOf_ok hc hr, hr]
    simp only
    rw [if_pos trivial]
    cases t with
    | nonce a b => rw [if_neg (show ¬ ((Tm.nonce a b).kind.toNat : Int) = 115 by show ¬ ((110 : UInt8).toNat : Int) = 115; decide)]
    | const l => rw [if_neg (show ¬ ((Tm.const l).kind.toNat : Int) = 115 by show ¬ ((99 : UInt8).toNat : Int) = 115; decide)]
    | hash t => rw [if_neg (show ¬ ((Tm.hash t).kind.toNat : Int) = 115 by show ¬ ((104 : UInt8).toNat : Int) = 115; decide)]
    | two k a b =>
      simp only
      by_cases h5 : k = 115
      · rw [if_pos (show ((Tm.two k a b).kind.toNat : Int) = 115 by show (k.toNat : Int) = 115; rw [h5]; rfl), if_pos h5, if_pos (by simp [Tm.parts])]
        simp only [Tm.parts, List.map_cons, List.map_nil, rdOf_0, rdOf_1, toList_iff]
        by_cases h6 : a.str = key
        · rw [if_pos h6, if_pos h6, if_pos (by simp)]
        · rw [if_neg h6, if_neg h6]
      · rw [if_neg (show ¬ ((Tm.two k a b).kind.toNat : Int) = 115 from fun h => h5 (u8i k 115 115 rfl (by decide) h)), if_neg h5]
  · rw [if_neg hc, partsOf_bad hc]
    simp only
    rw [if_neg hc]
theorem open_spec (key s : ByteArray) : term_Open.f key s = some (openOf key s) := by
  unfold term_Open.f
  simp only [term_Check.f, term_Parts.f, Option.bind_some]
  by_cases hk : check key = 0
  · rw [if_pos hk]
    exact open_parts key s hk
  · rw [if_neg hk]
    unfold openOf
    rw [if_neg hk]
theorem subs_small (s : ByteArray) : (subsOf s).1.length ≤ 2000 := by
  unfold subsOf
  split
  · rename_i h
    obtain ⟨t, hr, ho, _, _, hl⟩ := check_ok h
    rw [hr]
    have := t.subs_len
    simp
    omega
  · simp
theorem parts_small (s : ByteArray) : (partsOf s).2.1.length ≤ 2 := by
  by_cases h : check s = 0
  · obtain ⟨t, hr, _⟩ := check_ok h
    rw [partsOf_ok h hr]
    cases t <;> simp [Tm.parts]
  · rw [partsOf_bad h]; simp
end Go.Proofs.Ytmdpkooiehlbcaa.Ev03
