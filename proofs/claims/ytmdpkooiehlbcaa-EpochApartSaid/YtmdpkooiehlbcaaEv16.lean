/- What the printed functions of package epoch and of its reference come to. Plain law over the printed functions. -/
import Derived.Test.YtmdpkooiehlbcaaEvConst
import Derived.Test.YtmdpkooiehlbcaaPrx4
import Derived.Test.YtmdpkooiehlbcaaPrx3
import Derived.Test.YtmdpkooiehlbcaaPrx7
import Derived.Test.YtmdpkooiehlbcaaPrx6
set_option linter.unusedVariables false
set_option linter.unusedSimpArgs false
namespace Go.Proofs.Ytmdpkooiehlbcaa.Ev16
open Go.RowKit Go.Proofs.Ytmdpkooiehlbcaa.Pr Go.Proofs.YtmdpkooiehlbcaaW.PrintWords Go.Proofs.YtmdpkooiehlbcaaW.PrintLast Go.Proofs.YtmdpkooiehlbcaaW.PrintMore Go.Proofs.Ytmdpkooiehlbcaa.TT Go.Proofs.Ytmdpkooiehlbcaa.Ev03

def nameT (v : Int) : Tm := .const [118, UInt8.ofNat (v / 256).toNat, UInt8.ofNat (v % 256).toNat]
def nameOf (v : Int) : ByteArray := (nameT v).str
theorem nameT_ok (v : Int) : (nameT v).ok := by show [_, _, _].length ≤ 40; simp
theorem name_check (v : Int) : check (nameOf v) = 0 := check_str (nameT_ok v) (by simp [nameT, Tm.depth]) (by simp [nameT, Tm.enc])
theorem nums_name (a b c : Int) : strOfNums [a, b, c] = strOf [UInt8.ofNat a.toNat, UInt8.ofNat b.toNat, UInt8.ofNat c.toNat] := rfl
theorem const_name (v : Int) : constOf (strOf [118, UInt8.ofNat (v / 256).toNat, UInt8.ofNat (v % 256).toNat]) = (nameOf v, 0) := by
  unfold constOf
  rw [if_neg (by rw [strOf_size]; simp), strOf_data]
  rfl
theorem name_spec (v : Int) (h0 : 0 ≤ v) (h1 : v ≤ 1000) : epoch_name.f v = some (nameOf v) := by
  unfold epoch_name.f
  have e : v / 256 % 256 = v / 256 := by omega
  rw [const_spec, Option.bind_some, nums_name, e]
  rw [show UInt8.ofNat (118 : Int).toNat = 118 from rfl, const_name]
theorem ref_name_spec (v : Int) (h0 : 0 ≤ v) (h1 : v ≤ 1000) : chantryref16_name.f v = some (nameOf v) := by
  unfold chantryref16_name.f
  have e0 : Int.tdiv v 256 = v / 256 := Int.tdiv_eq_ediv_of_nonneg h0
  have e1 : wrap64 (v / 256) = v / 256 := wr (by omega) (by omega)
  have e : v / 256 % 256 = v / 256 := by omega
  have e2 : Int.tmod v 256 % 256 = v % 256 := by rw [Int.tmod_eq_emod_of_nonneg h0]; omega
  rw [ref_const_spec, Option.bind_some, nums_name, e0, e1, e, e2]
  rw [show UInt8.ofNat (118 : Int).toNat = 118 from rfl, const_name]

/-- What a Make of two comes to, case by case. -/
theorem make_of_two (c : UInt8) (s u : ByteArray) (ha : ar c = 2) : makeOf c [s, u] = if ¬ check s = 0 then (⟨#[]⟩, check s) else if ¬ check u = 0 then (⟨#[]⟩, check u) else if check (strOf (c :: (s.data.toList ++ u.data.toList))) = 0 then (strOf (c :: (s.data.toList ++ u.data.toList)), 0) else (⟨#[]⟩, 3) := by
  unfold makeOf
  rw [if_neg (by rw [ha]; simp)]
  have e : ([s, u].map fun s => s.data.toList).flatten = s.data.toList ++ u.data.toList := by simp
  by_cases h1 : check s = 0
  · by_cases h2 : check u = 0
    · have hf : [s, u].find? (fun s => decide (check s ≠ 0)) = none := by simp [h1, h2]
      rw [hf, if_neg (fun q : ¬ check s = 0 => q h1), if_neg (fun q : ¬ check u = 0 => q h2), ← e]
    · have hf : [s, u].find? (fun s => decide (check s ≠ 0)) = some u := by simp [h1, h2]
      rw [hf, if_neg (fun q : ¬ check s = 0 => q h1), if_pos h2]
  · have hf : [s, u].find? (fun s => decide (check s ≠ 0)) = some s := by simp [h1]
    rw [hf, if_pos h1]
theorem make_f (c : Int) (h0 : 0 ≤ c) (h1 : c ≤ 255) (l : List ByteArray) : term_Make.f c l = some (makeOf (UInt8.ofNat c.toNat) l) := by
  unfold term_Make.f; rw [if_pos ⟨h0, h1⟩]
theorem make_ref (k : Nat) (hk : 4000 ≤ k) (c : Int) (h0 : 0 ≤ c) (h1 : c ≤ 255) (l : List ByteArray) (hl : l.length ≤ 1000) : chantryref03_Make.f k c l = some (makeOf (UInt8.ofNat c.toNat) l) := by
  have hq : ((UInt8.ofNat c.toNat).toNat : Int) = c := by rw [UInt8.toNat_ofNat']; omega
  have hf := ref_make_spec k hk (UInt8.ofNat c.toNat) l hl
  rw [hq] at hf
  exact hf

def newOf (v : Int) (root : ByteArray) : Int × ByteArray × Int :=
  if 0 ≤ v ∧ v ≤ 1000 then (if (makeOf 100 [root, nameOf v]).2 = 0 then (v, (makeOf 100 [root, nameOf v]).1, 0) else (0, ⟨#[]⟩, (makeOf 100 [root, nameOf v]).2)) else (0, ⟨#[]⟩, 2)
theorem viewed_spec (v : Int) : epoch_viewed.f v = some (decide (0 ≤ v ∧ v ≤ 1000)) := by
  unfold epoch_viewed.f
  by_cases h : v ≥ 0
  · rw [if_pos h]
    by_cases h2 : v ≤ 1000
    · rw [decide_eq_true h2, decide_eq_true ⟨h, h2⟩]
    · rw [decide_eq_false h2, decide_eq_false (fun q => h2 q.2)]
  · rw [if_neg h, decide_eq_false (fun q => h q.1)]
theorem new_spec (v : Int) (root : ByteArray) : epoch_New.f v root = some (newOf v root) := by
  unfold epoch_New.f newOf
  rw [viewed_spec, Option.bind_some]
  by_cases h : 0 ≤ v ∧ v ≤ 1000
  · rw [if_pos (decide_eq_true h), if_pos h, name_spec v h.1 h.2, Option.bind_some, make_f 100 (by decide) (by decide), Option.bind_some]
    rw [show UInt8.ofNat (100 : Int).toNat = 100 from rfl]
    split <;> rfl
  · rw [if_neg (by simpa using h), if_neg h]
theorem ref_new_spec (k : Nat) (hk : 4001 ≤ k) (v : Int) (root : ByteArray) : chantryref16_New.f k v root = some (newOf v root) := by
  obtain ⟨k, rfl⟩ : ∃ m, k = m + 1 := ⟨k - 1, by omega⟩
  have key : ∀ b : Bool, (b = true ↔ ¬ (0 ≤ v ∧ v ≤ 1000)) → chantryref16_New.j0 (k + 1) v root b = some (newOf v root) := by
    intro b hb
    simp only [chantryref16_New.j0]
    unfold newOf
    by_cases h : 0 ≤ v ∧ v ≤ 1000
    · rw [if_neg (fun e => (hb.1 e) h), if_pos h, ref_name_spec v h.1 h.2, Option.bind_some, make_ref k (by omega) 100 (by decide) (by decide) _ (by simp), Option.bind_some]
      rw [show UInt8.ofNat (100 : Int).toNat = 100 from rfl]
      split <;> rfl
    · rw [if_pos (hb.2 h), if_neg h]
  unfold chantryref16_New.f
  by_cases h : v < 0
  · rw [if_pos h]
    exact key true ⟨fun _ q => by omega, fun _ => rfl⟩
  · rw [if_neg h]
    exact key _ (by rw [decide_eq_true_iff]; omega)

def rightOf (v : Int) (key : ByteArray) : Bool := decide ((0 ≤ v ∧ v ≤ 1000) ∧ check key = 0)
theorem right_spec (v : Int) (key : ByteArray) : epoch_Right.f v key = some (rightOf v key) := by
  unfold epoch_Right.f rightOf
  rw [viewed_spec, Option.bind_some]
  by_cases h : 0 ≤ v ∧ v ≤ 1000
  · rw [if_pos (decide_eq_true h)]
    simp only [term_Check.f, Option.bind_some, Option.some.injEq]
    by_cases h2 : check key = 0
    · rw [decide_eq_true ⟨h, h2⟩]; simpa using h2
    · rw [decide_eq_false (fun q => h2 q.2)]; simpa using h2
  · rw [if_neg (by simpa using h), decide_eq_false (fun q => h q.1)]
theorem ref_right_spec (k : Nat) (hk : 4000 ≤ k) (v : Int) (key : ByteArray) : chantryref16_Right.f k v key = some (rightOf v key) := by
  unfold chantryref16_Right.f rightOf
  by_cases h : v ≥ 0
  · rw [if_pos h]
    by_cases h1 : v ≤ 1000
    · rw [if_pos h1, check_spec k (by omega)]
      simp only [Option.bind_some, Option.some.injEq]
      by_cases h2 : check key = 0
      · rw [decide_eq_true ⟨⟨h, h1⟩, h2⟩]; simpa using h2
      · rw [decide_eq_false (fun q => h2 q.2)]; simpa using h2
    · rw [if_neg h1, decide_eq_false (fun q => h1 q.1.2)]
  · rw [if_neg h, decide_eq_false (fun q => h q.1.1)]

def pairT (v : Int) (text : ByteArray) : Tm := .two 112 (nameT v) (.const text.data.toList)
theorem pairT_ok (v : Int) {text : ByteArray} (h : text.size ≤ 40) : (pairT v text).ok := ⟨by decide, nameT_ok v, by show text.data.toList.length ≤ 40; rw [len_eq]; exact h⟩
theorem pairT_len (v : Int) (text : ByteArray) : (pairT v text).enc.length = 8 + text.size := by
  have := len_eq text
  simp [pairT, nameT, Tm.enc]
  rw [← len_eq]; simp; omega
theorem pair_check (v : Int) {text : ByteArray} (h : text.size ≤ 40) : check (pairT v text).str = 0 :=
  check_str (pairT_ok v h) (by simp [pairT, nameT, Tm.depth]) (by rw [pairT_len]; omega)
theorem pair_make (v : Int) {text : ByteArray} (h : text.size ≤ 40) : makeOf 112 [nameOf v, (Tm.const text.data.toList).str] = ((pairT v text).str, 0) := by
  have hc : check (Tm.const text.data.toList).str = 0 := check_str (by show text.data.toList.length ≤ 40; rw [len_eq]; exact h) (by simp [Tm.depth]) (by have := len_eq text; simp [Tm.enc]; rw [← len_eq] at h; simp at h; omega)
  rw [make_of_two 112 _ _ (by decide), if_neg (fun q : ¬ check (nameOf v) = 0 => q (name_check v)), if_neg (fun q : ¬ check (Tm.const text.data.toList).str = 0 => q hc)]
  unfold nameOf
  rw [two_str]
  exact if_pos (pair_check v h)
/-- What sealing comes to. -/
def sealOf (v : Int) (key text : ByteArray) : Int × ByteArray × Int :=
  if rightOf v key = true then (if 40 < text.size then (0, ⟨#[]⟩, 3) else (if (makeOf 115 [key, (pairT v text).str]).2 = 0 then (v, (makeOf 115 [key, (pairT v text).str]).1, 0) else (0, ⟨#[]⟩, (makeOf 115 [key, (pairT v text).str]).2))) else (0, ⟨#[]⟩, 2)
theorem seal_spec (v : Int) (key text : ByteArray) : epoch_Seal.f v key text = some (sealOf v key text) := by
  unfold epoch_Seal.f sealOf
  rw [right_spec, Option.bind_some]
  by_cases hr : rightOf v key = true
  · rw [if_pos hr, if_pos hr, const_spec, Option.bind_some]
    obtain ⟨hv, hk⟩ := of_decide_eq_true hr
    unfold constOf
    by_cases h : 40 < text.size
    · rw [if_pos h, if_pos h]
      rfl
    · rw [if_neg h, if_neg h]
      simp only
      rw [if_pos trivial, name_spec v hv.1 hv.2, Option.bind_some, make_f 112 (by decide) (by decide), Option.bind_some, show UInt8.ofNat (112 : Int).toNat = 112 from rfl, pair_make v (by omega)]
      simp only
      rw [if_pos trivial, make_f 115 (by decide) (by decide), Option.bind_some, show UInt8.ofNat (115 : Int).toNat = 115 from rfl]
      split <;> rfl
  · rw [if_neg hr, if_neg hr]
theorem seal_big {v : Int} {key text : ByteArray} (hk : check key = 0) (ht : text.size ≤ 40) (h : ¬ (makeOf 115 [key, (pairT v text).str]).2 = 0) : makeOf 115 [key, (pairT v text).str] = (⟨#[]⟩, 3) := by
  rw [make_of_two 115 _ _ (by decide), if_neg (fun q : ¬ check key = 0 => q hk), if_neg (fun q : ¬ check (pairT v text).str = 0 => q (pair_check v ht))] at h ⊢
  split at h
  · exact absurd rfl h
  · rename_i h2; rw [if_neg h2]
theorem toList_ne {l : List UInt8} (h : l ≠ []) : ¬ (strOf l).toList = ([] : List UInt8) := by
  rw [Go.ByteArray.toList_eq, strOf_data]; exact h
theorem ref_seal_spec (k : Nat) (hk : 4000 ≤ k) (v : Int) (key text : ByteArray) : chantryref16_Seal.f k v key text = some (sealOf v key text) := by
  unfold chantryref16_Seal.f sealOf chantryref03_Two.f
  rw [ref_right_spec k hk, Option.bind_some]
  by_cases hr : rightOf v key = true
  · rw [if_pos hr, if_pos hr, ref_const_spec, Option.bind_some]
    obtain ⟨hv, hck⟩ := of_decide_eq_true hr
    unfold constOf
    by_cases h : 40 < text.size
    · rw [if_pos h, if_pos h]
      rfl
    · rw [if_neg h, if_neg h]
      simp only
      rw [if_pos trivial, ref_name_spec v hv.1 hv.2, Option.bind_some, make_ref k hk 112 (by decide) (by decide) _ (by simp), Option.bind_some, Option.bind_some, show UInt8.ofNat (112 : Int).toNat = 112 from rfl, pair_make v (by omega)]
      simp only
      rw [make_ref k hk 115 (by decide) (by decide) _ (by simp), Option.bind_some, Option.bind_some, show UInt8.ofNat (115 : Int).toNat = 115 from rfl]
      by_cases hm : (makeOf 115 [key, (pairT v text).str]).2 = 0
      · obtain ⟨_, _, _, _, m⟩ := made_two hm
        rw [if_pos hm, m, if_neg (toList_ne (by simp))]
      · rw [if_neg hm, seal_big hck (by omega) hm, if_pos (by decide +kernel)]
  · rw [if_neg hr, if_neg hr]

/-- What is read out of what a key has opened. -/
def tailOf (v : Int) : Tm → ByteArray × Int
  | .two k a b => if k = 112 ∧ a.str = nameOf v then (match b with | .const l => (strOf l, 0) | _ => (⟨#[]⟩, 4)) else (⟨#[]⟩, 4)
  | _ => (⟨#[]⟩, 4)
def tailIn : Tm → ByteArray × Int
  | .const l => (strOf l, 0)
  | _ => (⟨#[]⟩, 4)
theorem tailOf_two (v : Int) (k : UInt8) (a b : Tm) : tailOf v (.two k a b) = if k = 112 ∧ a.str = nameOf v then tailIn b else (⟨#[]⟩, 4) := by cases b <;> rfl
theorem bt_str (t : Tm) : bt t.str 0 = (t.kind.toNat : Int) ∧ 0 < (t.str.size : Int) := by
  obtain ⟨h1, h2⟩ := bt_zero t
  exact ⟨h2, by omega⟩
theorem kind_ne {t : Tm} {n : Nat} (hn : n < 256) (h : t.kind ≠ UInt8.ofNat n) : ¬ (t.kind.toNat : Int) = (n : Int) := fun e => h ((u8 _ n hn).1 e)
theorem tail_spec (v : Int) (t : Tm) (ho : t.ok) (hc : check t.str = 0) :
    (if (partsOf t.str).1 = 112 then (if 0 < ((partsOf t.str).2.1.length : Int) then (if (rdOf ByteArray.empty (partsOf t.str).2.1 0).toList = (nameOf v).toList then (if 1 < ((partsOf t.str).2.1.length : Int) then (if 0 < ((rdOf ByteArray.empty (partsOf t.str).2.1 1).size : Int) then (if (bt (rdOf ByteArray.empty (partsOf t.str).2.1 1) 0) = 99 then (if 2 ≤ ((rdOf ByteArray.empty (partsOf t.str).2.1 1).size : Int) then (some ((rdOf ByteArray.empty (partsOf t.str).2.1 1).extract 2 (rdOf ByteArray.empty (partsOf t.str).2.1 1).size, (0 : Int))) else (none)) else (some ((⟨#[]⟩ : ByteArray), 4))) else (none)) else (none)) else (some ((⟨#[]⟩ : ByteArray), 4))) else (none)) else (some ((⟨#[]⟩ : ByteArray), 4))) = some (tailOf v t) := by
  rw [partsOf_ok hc (read_str t ho)]
  simp only
  cases t with
  | nonce a b => rw [if_neg (show ¬ ((Tm.nonce a b).kind.toNat : Int) = 112 by show ¬ ((110 : UInt8).toNat : Int) = 112; decide)]; rfl
  | const l => rw [if_neg (show ¬ ((Tm.const l).kind.toNat : Int) = 112 by show ¬ ((99 : UInt8).toNat : Int) = 112; decide)]; rfl
  | hash t => rw [if_neg (show ¬ ((Tm.hash t).kind.toNat : Int) = 112 by show ¬ ((104 : UInt8).toNat : Int) = 112; decide)]; rfl
  | two k a b =>
    by_cases hk : k = 112
    · subst hk
      rw [if_pos (show (((Tm.two 112 a b).kind.toNat : Int)) = 112 from rfl)]
      simp only [Tm.parts, List.map_cons, List.map_nil, rdOf_0, rdOf_1, toList_iff, List.length_cons, List.length_nil]
      rw [if_pos (by decide)]
      obtain ⟨hb, hp⟩ := bt_str b
      by_cases hn : a.str = nameOf v
      · rw [if_pos hn, if_pos (by decide), if_pos hp, hb, tailOf_two, if_pos (show (112 : UInt8) = 112 ∧ a.str = nameOf v from ⟨rfl, hn⟩)]
        cases b with
        | nonce a b => rw [if_neg (show ¬ ((Tm.nonce a b).kind.toNat : Int) = 99 by show ¬ ((110 : UInt8).toNat : Int) = 99; decide)]; rfl
        | hash t => rw [if_neg (show ¬ ((Tm.hash t).kind.toNat : Int) = 99 by show ¬ ((104 : UInt8).toNat : Int) = 99; decide)]; rfl
        | two k' a' b' => rw [if_neg (show ¬ (((Tm.two k' a' b').kind.toNat : Int)) = 99 from fun e => (isTwo_ne ho.2.2.1).2.1 ((u8 k' 99 (by decide)).1 e))]; rfl
        | const l =>
          rw [if_pos (show ((Tm.const l).kind.toNat : Int) = 99 from rfl)]
          have hs : ((Tm.const l).str).size = 2 + l.length := by rw [str_size]; simp [Tm.enc]; omega
          rw [if_pos (by omega)]
          refine congrArg some (Prod.ext ?_ rfl)
          apply ByteArray.ext
          apply Array.ext'
          rw [ByteArray.data_extract, Array.toList_extract, List.extract_eq_take_drop, str_data, hs]
          simp [Tm.enc, tailIn, strOf]
      · rw [if_neg hn, tailOf_two, if_neg (fun q : (112 : UInt8) = 112 ∧ a.str = nameOf v => hn q.2)]
    · rw [if_neg (show ¬ (((Tm.two k a b).kind.toNat : Int)) = 112 from fun e => hk ((u8 k 112 (by decide)).1 e)), tailOf_two, if_neg (fun q : k = 112 ∧ a.str = nameOf v => hk q.1)]
/-- What is opened well is a good term's text. -/
theorem open_good {key s : ByteArray} (h : (openOf key s).2 = 0) : ∃ t : Tm, t.ok ∧ check t.str = 0 ∧ openOf key s = (t.str, 0) ∧ ∃ a : Tm, read s = some (.two 115 a t) ∧ a.str = key ∧ check s = 0 ∧ check key = 0 := by
  unfold openOf at h ⊢
  by_cases hk : check key = 0
  · rw [if_pos hk] at h ⊢
    by_cases hs : check s = 0
    · rw [if_pos hs] at h ⊢
      obtain ⟨u, hr, ho, rfl, hd, hl⟩ := check_ok hs
      rw [hr] at h ⊢
      cases u with
      | nonce a b => simp at h
      | const l => simp at h
      | hash t => simp at h
      | two k a b =>
        simp only at h ⊢
        by_cases h1 : k = 115
        · rw [if_pos h1] at h ⊢
          by_cases h2 : a.str = key
          · rw [if_pos h2]
            obtain ⟨q1, q2, _⟩ := check_part (u := b) ho hd hl (by simp [Tm.parts])
            refine ⟨b, q2, q1, rfl, a, ?_, h2, hs, hk⟩
            rw [h1]
          · rw [if_neg h2] at h; simp at h
        · rw [if_neg h1] at h; simp at h
    · rw [if_neg hs] at h; exact absurd h hs
  · rw [if_neg hk] at h; exact absurd h hk
/-- What opening comes to. -/
def open16 (v : Int) (key : ByteArray) (sv : Int) (s : ByteArray) : ByteArray × Int :=
  if rightOf v key = true then (if sv = v then (if (openOf key s).2 = 0 then ((read (openOf key s).1).elim (⟨#[]⟩, 4) (tailOf v)) else (⟨#[]⟩, (openOf key s).2)) else (⟨#[]⟩, 11)) else (⟨#[]⟩, 2)
theorem open16_spec (v : Int) (key : ByteArray) (sv : Int) (s : ByteArray) : epoch_Open.f v key sv s = some (open16 v key sv s) := by
  unfold epoch_Open.f open16
  rw [right_spec, Option.bind_some]
  by_cases hr : rightOf v key = true
  · rw [if_pos hr, if_pos hr]
    obtain ⟨hv, hk⟩ := of_decide_eq_true hr
    by_cases hs : sv = v
    · rw [if_pos hs, if_pos hs, open_spec, Option.bind_some]
      by_cases h : (openOf key s).2 = 0
      · rw [if_pos h, if_pos h]
        obtain ⟨t, ho, hc, e, _⟩ := open_good h
        rw [e]
        simp only [term_Parts.f, Option.bind_some, name_spec v hv.1 hv.2]
        rw [tail_spec v t ho hc, read_str t ho]
        rfl
      · rw [if_neg h, if_neg h]
    · rw [if_neg hs, if_neg hs]
  · rw [if_neg hr, if_neg hr]
end Go.Proofs.Ytmdpkooiehlbcaa.Ev16
