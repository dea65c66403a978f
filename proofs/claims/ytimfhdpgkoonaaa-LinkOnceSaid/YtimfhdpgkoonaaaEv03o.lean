/- The reference's Make: what it comes to (XEv03b without Parts and Open). -/
import Derived.Test.YtimfhdpgkoonaaaEv03
import Derived.Test.YtimfhdpgkoonaaaPrxMk
import Derived.Test.YtimfhdpgkoonaaaMake
set_option linter.unusedVariables false
set_option linter.unusedSimpArgs false
namespace Go.Proofs.Ytimfhdpgkoonaaa.Ev03
open Go.RowKit Go.Proofs.Ytimfhdpgkoonaaa.Pr Go.Proofs.YtimfhdpgkoonaaaW.PrintWords Go.Proofs.YtimfhdpgkoonaaaW.PrintLast Go.Proofs.YtimfhdpgkoonaaaW.PrintMore Go.Proofs.Ytimfhdpgkoonaaa.TT

theorem str_size (t : Tm) : t.str.size = t.enc.length := by rw [Tm.str, strOf_size]
theorem str_data (t : Tm) : t.str.data.toList = t.enc := by rw [Tm.str, strOf_data]
theorem cut_str {s : ByteArray} {p : Nat} {t : Tm} {r : List UInt8} (hd : s.data.toList.drop p = t.enc ++ r) : s.extract p (p + t.enc.length) = t.str := by
  have h3 : (s.extract p (p + t.enc.length)).data.toList = t.enc := by
    rw [ByteArray.data_extract, Array.toList_extract, List.extract_eq_take_drop, hd, Nat.add_sub_cancel_left, List.take_left]
  refine Eq.trans (strOf_of _).symm ?_
  rw [h3]; rfl
theorem bt_zero (t : Tm) : 0 < t.str.size ∧ bt t.str 0 = (t.kind.toNat : Int) := by
  have hd : t.str.data.toList.drop 0 = t.enc ++ [] := by rw [str_data]; simp
  exact bt_kind hd

/-! ### Make -/
theorem rdOf_0 (s : ByteArray) (l : List ByteArray) : rdOf ByteArray.empty (s :: l) 0 = s := rfl
theorem rdOf_1 (s u : ByteArray) (l : List ByteArray) : rdOf ByteArray.empty (s :: u :: l) 1 = u := rfl
theorem nums_one (c : UInt8) : strOfNums [(c.toNat : Int)] = strOf [c] := by
  unfold strOfNums strOf
  first | done | (rw [List.map_cons, List.map_nil, Int.toNat_natCast, UInt8.ofNat_toNat])
theorem strOf_app (l : List UInt8) (s : ByteArray) : strOf l ++ s = strOf (l ++ s.data.toList) := by
  apply ByteArray.ext
  apply Array.ext'
  rw [ByteArray.data_append, Array.toList_append, strOf_data, strOf_data]
theorem check_small {s : ByteArray} (h : check s = 0) : s.size ≤ 2000 := by
  unfold check at h
  split at h
  · omega
  · omega

theorem ref_make_spec (k : Nat) (hk : 4000 ≤ k) (c : UInt8) (l : List ByteArray) (hl : l.length ≤ 1000) : chantryref03_Make.f k (c.toNat : Int) l = some (makeOf c l) := by
  obtain ⟨k, rfl⟩ : ∃ m, k = m + 4 := ⟨k - 4, by omega⟩
  have ha : ar c ≤ 2 := by unfold ar; split <;> (try split) <;> (try split) <;> omega
  unfold chantryref03_Make.f
  rw [need_spec _ (by omega), Option.bind_some]
  by_cases h1 : ar c < 1
  · rw [if_pos h1]
    simp only [chantryref03_Make.j0]
    rw [if_pos trivial]
    unfold makeOf
    rw [if_pos (.inl h1)]
  rw [if_neg h1, Option.bind_some]
  by_cases h2 : ar c = (l.length : Int)
  · have hb : (ar c != (l.length : Int)) = false := by rw [h2]; exact bne_self_eq_false _
    rw [hb]
    simp only [chantryref03_Make.j0]
    rw [if_neg (by decide), nums_one]
    have hm : makeOf c l = match l.find? (fun s => decide (check s ≠ 0)) with
      | some s => (⟨#[]⟩, check s)
      | none => if check (strOf (c :: (l.map fun s => s.data.toList).flatten)) = 0 then (strOf (c :: (l.map fun s => s.data.toList).flatten), 0) else (⟨#[]⟩, 3) := by
      unfold makeOf; rw [if_neg (by omega)]; rfl
    rw [hm]
    match l, h2, hl with
    | [], h2, _ => simp at h2; omega
    | [s], h2, _ =>
      simp only [chantryref03_Make.l0, List.length_cons, List.length_nil]
      rw [if_pos (by decide), if_pos (by decide), rdOf_0, check_spec _ (by omega), Option.bind_some]
      by_cases hc : check s = 0
      · have hsz := check_small hc
        rw [if_pos hc, if_pos (by rw [strOf_size]; simp; omega), show wrap64 (0 + 1) = 1 from wr (by omega) (by omega), if_neg (by decide), strOf_app, check_spec _ (by omega), Option.bind_some]
        have hf : [s].find? (fun s => decide (check s ≠ 0)) = none := by simp [hc]
        rw [hf]
        have e : ([s].map fun s => s.data.toList).flatten = s.data.toList := by simp
        rw [e]
        simp only [List.singleton_append]
        by_cases h5 : check (strOf (c :: s.data.toList)) = 0
        · rw [if_pos h5]; (try simp only); rw [if_pos h5]
        · rw [if_neg h5]; (try simp only); rw [if_neg h5]
      · rw [if_neg hc]
        have hf : [s].find? (fun s => decide (check s ≠ 0)) = some s := by simp [hc]
        rw [hf]
    | [s, u], h2, _ =>
      simp only [chantryref03_Make.l0, List.length_cons, List.length_nil]
      rw [if_pos (by decide), if_pos (by decide), rdOf_0, check_spec _ (by omega), Option.bind_some]
      by_cases hc : check s = 0
      · have hsz := check_small hc
        rw [if_pos hc, if_pos (by rw [strOf_size]; simp; omega), show wrap64 (0 + 1) = 1 from wr (by omega) (by omega), if_pos (by decide), if_pos (by decide), rdOf_1, strOf_app, check_spec _ (by omega), Option.bind_some]
        by_cases hd : check u = 0
        · have hsu := check_small hd
          have hq : s.data.toList.length = s.size := len_eq s
          rw [if_pos hd, if_pos (by rw [strOf_size]; simp; omega), show wrap64 (1 + 1) = 2 from wr (by omega) (by omega), if_neg (by decide), strOf_app, check_spec _ (by omega), Option.bind_some]
          have hf : [s, u].find? (fun s => decide (check s ≠ 0)) = none := by simp [hc, hd]
          rw [hf]
          have e : ([s, u].map fun s => s.data.toList).flatten = s.data.toList ++ u.data.toList := by simp
          rw [e]
          simp only [List.singleton_append, List.cons_append, List.nil_append]
          by_cases h5 : check (strOf (c :: (s.data.toList ++ u.data.toList))) = 0
          · rw [if_pos h5]; (try simp only); rw [if_pos h5]
          · rw [if_neg h5]; (try simp only); rw [if_neg h5]
        · rw [if_neg hd]
          have hf : [s, u].find? (fun s => decide (check s ≠ 0)) = some u := by simp [hc, hd]
          rw [hf]
      · rw [if_neg hc]
        have hf : [s, u].find? (fun s => decide (check s ≠ 0)) = some s := by simp [hc]
        rw [hf]
    | s :: u :: v :: r, h2, _ => simp only [List.length_cons] at h2; omega
  · have hb : (ar c != (l.length : Int)) = true := by simpa using h2
    rw [hb]
    simp only [chantryref03_Make.j0]
    rw [if_pos trivial]
    unfold makeOf
    rw [if_pos (.inr h2)]

theorem toList_iff (a b : ByteArray) : a.toList = b.toList ↔ a = b := by
  rw [Go.ByteArray.toList_eq, Go.ByteArray.toList_eq]
  constructor
  · intro h
    apply ByteArray.ext
    exact Array.ext' h
  · rintro rfl; rfl

end Go.Proofs.Ytimfhdpgkoonaaa.Ev03
