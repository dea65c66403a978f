/- What link.built builds, as a term: its parts, its depth, its bytes; what the text is can be told from it. Plain law. -/
import Derived.Test.YtimfhdpgkoonaaaEvConstO
import Derived.Test.YtimfhdpgkoonaaaBuilt
set_option linter.unusedVariables false
set_option linter.unusedSimpArgs false
namespace Go.Proofs.Ytimfhdpgkoonaaa.L06
open Go.RowKit Go.Proofs.Ytimfhdpgkoonaaa.Pr Go.Proofs.YtimfhdpgkoonaaaW.PrintWords Go.Proofs.YtimfhdpgkoonaaaW.PrintLast Go.Proofs.YtimfhdpgkoonaaaW.PrintMore Go.Proofs.Ytimfhdpgkoonaaa.TT Go.Proofs.Ytimfhdpgkoonaaa.Ev03 Go.Proofs.Ytimfhdpgkoonaaa.Iter

def by8 (xs : List Int) : List UInt8 := xs.map fun n => UInt8.ofNat n.toNat
theorem by8_str (xs : List Int) : strOfNums xs = strOf (by8 xs) := rfl
theorem by8_len (xs : List Int) : (by8 xs).length = xs.length := by simp [by8]
def leaf (bs : List Int) (k : Nat) : Tm := .const (by8 (pL bs k))
def acc (bs : List Int) (n : Nat) : Nat → Tm
  | 0 => leaf bs n
  | k + 1 => .two 112 (leaf bs (n - 1 - k)) (acc bs n k)
def btm (bs : List Int) : Tm := acc bs (nP bs - 1) (nP bs - 1)

theorem pL_40 (bs : List Int) (k : Nat) : (pL bs k).length ≤ 40 := by rw [pL_len]; omega
theorem leaf_ok (bs : List Int) (k : Nat) : (leaf bs k).ok := by show (by8 (pL bs k)).length ≤ 40; rw [by8_len]; exact pL_40 bs k
theorem leaf_len (bs : List Int) (k : Nat) : (leaf bs k).enc.length ≤ 42 := by
  have := pL_40 bs k
  simp only [leaf, Tm.enc, List.length_cons, by8_len]
  omega
theorem acc_ok (bs : List Int) (n : Nat) : ∀ k, (acc bs n k).ok
  | 0 => leaf_ok bs n
  | k + 1 => ⟨rfl, leaf_ok bs _, acc_ok bs n k⟩
theorem acc_depth (bs : List Int) (n : Nat) : ∀ k, (acc bs n k).depth = k + 1
  | 0 => rfl
  | k + 1 => by
    show max (leaf bs (n - 1 - k)).depth (acc bs n k).depth + 1 = _
    rw [acc_depth bs n k]
    show max 1 (k + 1) + 1 = _
    omega
theorem acc_len (bs : List Int) (n : Nat) : ∀ k, (acc bs n k).enc.length ≤ 42 + 43 * k
  | 0 => leaf_len bs n
  | k + 1 => by
    have h1 := acc_len bs n k
    have h2 := leaf_len bs (n - 1 - k)
    simp only [acc, Tm.enc, List.length_cons, List.length_append]
    omega
theorem acc_check (bs : List Int) (n k : Nat) (hk : k ≤ 40) : check (acc bs n k).str = 0 :=
  check_str (acc_ok bs n k) (by rw [acc_depth]; omega) (by have := acc_len bs n k; omega)
theorem leaf_check (bs : List Int) (n : Nat) : check (leaf bs n).str = 0 := acc_check bs n 0 (by omega)

theorem constB_str (b : ByteArray) (h : b.size ≤ 40) : constB b = (Tm.const b.data.toList).str := by
  unfold constB
  have e : strOfNums [99, (b.size : Int) % 256] = strOf [99, UInt8.ofNat b.size] := by
    unfold strOfNums strOf
    rw [List.map_cons, List.map_cons, List.map_nil]
    have : ((b.size : Int) % 256).toNat = b.size := by omega
    rw [this]; rfl
  have q : b.data.toList.length = b.size := len_eq b
  rw [e, strOf_app]
  simp only [Tm.str, Tm.enc, q, List.cons_append, List.nil_append]
theorem pc_str (bs : List Int) (k : Nat) : pc bs k = (leaf bs k).str := by
  unfold pc leaf
  rw [constB_str _ (by rw [strOfNums_size]; exact pL_40 bs k), by8_str, strOf_data]
theorem joinT_str (a b : Tm) : joinT a.str b.str = (Tm.two 112 a b).str := by
  unfold joinT
  have e : strOfNums [112] = strOf [112] := rfl
  rw [e, strOf_app, strOf_app, str_data, str_data]
  rfl
theorem zs_at (bs : List Int) (j : Nat) (h : j < nP bs) : (zsOf bs).getD j ⟨#[]⟩ = (leaf bs j).str := by
  unfold zsOf
  rw [List.getD_eq_getElem?_getD, List.getElem?_map, List.getElem?_range h]
  exact pc_str bs j
theorem fold_acc (bs : List Int) (n : Nat) (hn : n < nP bs) : ∀ k, k ≤ n → foldT (zsOf bs) (downto n k) ((zsOf bs).getD n ⟨#[]⟩) = (acc bs n k).str
  | 0, _ => by rw [zs_at bs n hn]; rfl
  | k + 1, h => by rw [downto_succ, foldT_snoc, fold_acc bs n hn k (by omega), zs_at bs _ (by omega), joinT_str]; rfl
theorem built_str (bs : List Int) (h : 0 < bs.length) : builtOf bs = (btm bs).str :=
  fold_acc bs (nP bs - 1) (by unfold nP; omega) _ (Nat.le_refl _)

/-- All bytes of a term that is made of constants. -/
def flat : Tm → List UInt8
  | .nonce _ _ => []
  | .const l => l
  | .hash t => flat t
  | .two _ a b => flat a ++ flat b
theorem acc_flat (bs : List Int) (n : Nat) (hn : bs.length ≤ 40 * (n + 1)) : ∀ k, k ≤ n → flat (acc bs n k) = by8 (bs.drop (40 * (n - k)))
  | 0, _ => by
    show by8 (pL bs n) = _
    unfold pL
    rw [List.take_of_length_le (by rw [List.length_drop]; omega)]
    rfl
  | k + 1, h => by
    show by8 (pL bs (n - 1 - k)) ++ flat (acc bs n k) = _
    rw [acc_flat bs n hn k (by omega)]
    unfold by8 pL
    rw [← List.map_append]
    congr 1
    have e : 40 * (n - k) = 40 * (n - 1 - k) + 40 := by omega
    rw [e, ← List.drop_drop, List.take_append_drop]
    congr 1
    omega
theorem btm_flat (bs : List Int) : flat (btm bs) = by8 bs := by
  unfold btm
  rw [acc_flat bs _ (by unfold nP; omega) _ (Nat.le_refl _), Nat.sub_self, Nat.mul_zero, List.drop_zero]
theorem btm_ok (bs : List Int) : (btm bs).ok := acc_ok bs _ _
theorem btm_depth (bs : List Int) (h : bs.length ≤ 1006) : (btm bs).depth ≤ 26 := by unfold btm; rw [acc_depth]; unfold nP; omega
theorem btm_len (bs : List Int) : (btm bs).enc.length ≤ 42 + 43 * (nP bs - 1) := acc_len bs _ _
theorem btm_check (bs : List Int) (h : bs.length ≤ 1006) : check (btm bs).str = 0 := acc_check bs _ _ (by unfold nP; omega)
theorem by8_inj {xs ys : List Int} (hx : ∀ n ∈ xs, 0 ≤ n ∧ n ≤ 255) (hy : ∀ n ∈ ys, 0 ≤ n ∧ n ≤ 255) (h : by8 xs = by8 ys) : xs = ys := by
  induction xs generalizing ys with
  | nil => cases ys with
    | nil => rfl
    | cons y ys => cases h
  | cons x xs ih => cases ys with
    | nil => cases h
    | cons y ys =>
      simp only [by8, List.map_cons, List.cons.injEq] at h
      have h1 := hx x (by simp)
      have h2 := hy y (by simp)
      have h3 := congrArg UInt8.toNat h.1
      rw [UInt8.toNat_ofNat', UInt8.toNat_ofNat', Nat.mod_eq_of_lt (by omega), Nat.mod_eq_of_lt (by omega)] at h3
      have h4 := ih (fun n hn => hx n (by simp [hn])) (fun n hn => hy n (by simp [hn])) h.2
      rw [h4]
      congr 1
      omega
theorem btm_inj {xs ys : List Int} (hx : ∀ n ∈ xs, 0 ≤ n ∧ n ≤ 255) (hy : ∀ n ∈ ys, 0 ≤ n ∧ n ≤ 255) (h : (btm xs).str = (btm ys).str) : xs = ys := by
  have h1 := enc_inj (btm_ok xs) (btm_ok ys) (strOf_inj h)
  have h2 := congrArg flat h1
  rw [btm_flat, btm_flat] at h2
  exact by8_inj hx hy h2

/-! ### Sealing and tagging: two parts -/
def two2 (c : UInt8) (key : ByteArray) (u : Tm) : ByteArray × Int :=
  if check key = 0 then ((read key).elim (⟨#[]⟩, 3) fun t => if (Tm.two c t u).depth ≤ 60 ∧ (Tm.two c t u).enc.length ≤ 2000 then ((Tm.two c t u).str, 0) else (⟨#[]⟩, 3)) else (⟨#[]⟩, check key)
theorem check_not {t : Tm} (ho : t.ok) (h : ¬ (t.depth ≤ 60 ∧ t.enc.length ≤ 2000)) : ¬ check t.str = 0 := by
  intro hc
  obtain ⟨u, hr, _, _, h1, h2⟩ := check_ok hc
  rw [read_str t ho] at hr
  obtain rfl := Option.some.inj hr
  exact h ⟨h1, h2⟩
theorem make_two (c : UInt8) (hc : isTwo c = true) (key : ByteArray) (u : Tm) (hu : u.ok) (hcu : check u.str = 0) : makeOf c [key, u.str] = two2 c key u := by
  have ha : ar c = 2 := by
    obtain ⟨h1, h2, h3⟩ := isTwo_ne hc
    unfold ar
    rw [if_neg (by simp [h1, h2]), if_neg h3, if_pos hc]
  unfold makeOf two2
  rw [if_neg (by rw [ha]; simp)]
  by_cases hk : check key = 0
  · obtain ⟨t, hr, ho, rfl, _, _⟩ := check_ok hk
    have hf : [t.str, u.str].find? (fun s => decide (check s ≠ 0)) = none := by simp [hk, hcu]
    have e : ([t.str, u.str].map fun s => s.data.toList).flatten = t.str.data.toList ++ u.str.data.toList := by simp
    rw [hf, if_pos hk, hr]
    simp only [Option.elim]
    rw [e, two_str]
    have hok : (Tm.two c t u).ok := ⟨hc, ho, hu⟩
    by_cases h5 : (Tm.two c t u).depth ≤ 60 ∧ (Tm.two c t u).enc.length ≤ 2000
    · rw [if_pos h5, if_pos (check_str hok h5.1 h5.2)]
    · rw [if_neg h5, if_neg (check_not hok h5)]
  · have hf : [key, u.str].find? (fun s => decide (check s ≠ 0)) = some key := by simp [hk]
    rw [hf, if_neg hk]
theorem two2_ok {c : UInt8} {key : ByteArray} {u : Tm} (h : (two2 c key u).2 = 0) : ∃ t : Tm, t.ok ∧ key = t.str ∧ check key = 0 ∧ read key = some t ∧ (Tm.two c t u).depth ≤ 60 ∧ (Tm.two c t u).enc.length ≤ 2000 ∧ (two2 c key u).1 = (Tm.two c t u).str := by
  unfold two2 at h ⊢
  by_cases hk : check key = 0
  · obtain ⟨t, hr, ho, e, _, _⟩ := check_ok hk
    rw [if_pos hk, hr] at h ⊢
    simp only [Option.elim] at h ⊢
    by_cases h5 : (Tm.two c t u).depth ≤ 60 ∧ (Tm.two c t u).enc.length ≤ 2000
    · rw [if_pos h5]
      exact ⟨t, ho, e, hk, rfl, h5.1, h5.2, rfl⟩
    · rw [if_neg h5] at h
      exact absurd h (by decide)
  · rw [if_neg hk] at h
    exact absurd h hk
end Go.Proofs.Ytimfhdpgkoonaaa.L06
