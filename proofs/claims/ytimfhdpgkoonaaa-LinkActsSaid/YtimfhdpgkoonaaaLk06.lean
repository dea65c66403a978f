/- The functions of package link and of its reference: what they come to. Plain law. -/
import Derived.Test.YtimfhdpgkoonaaaBt06
import Derived.Test.YtimfhdpgkoonaaaPrx3
import Derived.Test.YtimfhdpgkoonaaaPrx4
import Derived.Test.YtimfhdpgkoonaaaPrx2
import Derived.Test.YtimfhdpgkoonaaaPrx7
import Derived.Test.YtimfhdpgkoonaaaPrx5
set_option linter.unusedVariables false
set_option linter.unusedSimpArgs false
namespace Go.Proofs.Ytimfhdpgkoonaaa.L06
open Go.RowKit Go.Proofs.Ytimfhdpgkoonaaa.Pr Go.Proofs.YtimfhdpgkoonaaaW.PrintWords Go.Proofs.YtimfhdpgkoonaaaW.PrintLast Go.Proofs.YtimfhdpgkoonaaaW.PrintMore Go.Proofs.Ytimfhdpgkoonaaa.TT Go.Proofs.Ytimfhdpgkoonaaa.Ev03 Go.Proofs.Ytimfhdpgkoonaaa.Iter

def twoB (a b : Int) : Bool := if a < 16 then (if b < 16 then a != b else false) else false
theorem two_spec (a b : Int) : link_two.f a b = some (twoB a b) := by
  unfold link_two.f twoB
  split
  · split <;> rfl
  · rfl
theorem ref_two_spec (a b : Int) : chantryref06_two.f a b = some (twoB a b) := two_spec a b

theorem text_len (a0 a1 a2 : Int) (l : List Int) : (textOf a0 a1 a2 l).length = l.length + 6 := by unfold textOf; simp
theorem make_spec (c : UInt8) (l : List ByteArray) (x : Int) (hx : x = (c.toNat : Int)) : term_Make.f x l = some (makeOf c l) := by
  subst hx
  unfold term_Make.f
  have := c.toNat_lt
  rw [if_pos ⟨by omega, by omega⟩, Int.toNat_natCast, UInt8.ofNat_toNat]

def tagOf (key : ByteArray) (a0 a1 a2 : Int) (l : List Int) : ByteArray × Int := if (l.length : Int) > 1000 then (⟨#[]⟩, 3) else two2 109 key (btm (textOf a0 a1 a2 l))
theorem tag_spec (key : ByteArray) (a0 a1 a2 : Int) (l : List Int) (tg : ByteArray) : link_Tag.f key a0 a1 a2 l tg = some (tagOf key a0 a1 a2 l) := by
  unfold link_Tag.f tagOf
  by_cases h : (l.length : Int) > 1000
  · rw [if_pos h, if_pos h]
  · have ht := text_len a0 a1 a2 l
    rw [if_neg h, if_neg h]
    unfold link_built.f
    rw [if_pos (by omega), Option.bind_some, built_str _ (by omega), make_spec 109 _ 109 rfl, Option.bind_some, make_two 109 rfl key _ (btm_ok _) (btm_check _ (by omega))]

/-! ### The reference's tag -/
theorem text_spec (a0 a1 a2 : Int) (l : List Int) (tg : ByteArray) (h0 : 0 ≤ a2) (h1 : a2 < 4294967296) (hl : l.length ≤ 5000) : chantryref06_text.f a0 a1 a2 l tg = some (textOf a0 a1 a2 l) := by
  unfold chantryref06_text.f textOf
  have e1 : Int.tdiv a2 16777216 = a2 / 16777216 := Int.tdiv_eq_ediv_of_nonneg h0
  have e2 : Int.tdiv a2 65536 = a2 / 65536 := Int.tdiv_eq_ediv_of_nonneg h0
  have e3 : Int.tdiv a2 256 = a2 / 256 := Int.tdiv_eq_ediv_of_nonneg h0
  have e4 : Int.tmod a2 256 = a2 % 256 := Int.tmod_eq_emod_of_nonneg h0
  have g1 : (a2 / 16777216) % 4294967296 % 256 = a2 / 16777216 % 256 := by omega
  have g2 : (a2 / 65536) % 4294967296 % 256 = a2 / 65536 % 256 := by omega
  have g3 : (a2 / 256) % 4294967296 % 256 = a2 / 256 % 256 := by omega
  have g4 : a2 % 256 % 256 = a2 % 256 := by omega
  rw [e1, e2, e3, e4, g1, g2, g3, g4, Option.bind_some, if_pos (by simp; omega)]
theorem ref_two2 (k : Nat) (hk : 4100 ≤ k) (a b : Tm) (ha : check a.str = 0) (hb : check b.str = 0) (hab : check (Tm.two 112 a b).str = 0) : chantryref03_Two.f k 112 a.str b.str = some (Tm.two 112 a b).str := by
  unfold chantryref03_Two.f
  have e := ref_make_spec k (by omega) 112 [a.str, b.str] (by simp)
  rw [show ((112 : UInt8).toNat : Int) = 112 from rfl] at e
  rw [e, Option.bind_some]
  obtain ⟨t, hr, ho, he, h1, h2⟩ := check_ok hab
  obtain ⟨u, hu, huo, hue, _⟩ := check_ok hb
  obtain ⟨v, hv, hvo, hve, _⟩ := check_ok ha
  have e1 : ([a.str, b.str].map fun s => s.data.toList).flatten = a.str.data.toList ++ b.str.data.toList := by simp
  have hf : [a.str, b.str].find? (fun s => decide (check s ≠ 0)) = none := by simp [ha, hb]
  unfold makeOf
  rw [if_neg (show ¬ (ar 112 < 1 ∨ ar 112 ≠ (([a.str, b.str].length : Nat) : Int)) from by rw [show [a.str, b.str].length = 2 from rfl]; decide), hf, e1, two_str, if_pos hab]
theorem piece_eq (bs : List Int) (j : Nat) (x : Int) (hx : x = (j : Int)) (hj : j < nP bs) (hb : bs.length ≤ 5006) :
    strOfNums ((bs.take ((mn (bs.length : Int) (wrap64 ((wrap64 (x + 1)) * 40))) : Int).toNat).drop ((wrap64 (x * 40)) : Int).toNat) = strOfNums (pL bs j) := by
  subst hx
  unfold nP at hj
  rw [wr (x := (j : Int) + 1) (by omega) (by omega), wr (x := ((j : Int) + 1) * 40) (by omega) (by omega), wr (x := (j : Int) * 40) (by omega) (by omega)]
  have e1 : ((j : Int) * 40).toNat = 40 * j := by omega
  have e2 : (mn (bs.length : Int) (((j : Int) + 1) * 40)).toNat = min bs.length (40 * j + 40) := by unfold mn; split <;> omega
  rw [e1, e2]
  unfold pL
  congr 1
  rw [List.drop_take]
  rw [List.take_eq_take_iff, List.length_drop]
  omega
theorem mn_le (a b : Int) : mn a b ≤ a := by unfold mn; split <;> omega
theorem le_mn {x a b : Int} (ha : x ≤ a) (hb : x ≤ b) : x ≤ mn a b := by unfold mn; split <;> omega
theorem leaf_const (bs : List Int) (j : Nat) : constOf (strOfNums (pL bs j)) = ((leaf bs j).str, 0) := by
  unfold constOf
  have := pL_40 bs j
  rw [if_neg (by rw [strOfNums_size]; omega)]
  unfold leaf
  rw [by8_str, strOf_data]
theorem ref_round (bs : List Int) (hb : bs.length ≤ 1006) (n : Nat) (hn : n + 1 = nP bs) (n' : Int) (hn' : n' = (n : Int)) : ∀ j, j ≤ n → ∀ (K : Nat) (x : Int), 4200 + j ≤ K → x = (j : Int) - 1 →
    chantryref06_built.l0 K bs ((acc bs n (n - j)).str) n' x = some (acc bs n n).str
  | 0, _, K, x, hK, hx => by
    obtain ⟨K, rfl⟩ : ∃ m, K = m + 1 := ⟨K - 1, by omega⟩
    simp only [chantryref06_built.l0]
    rw [if_neg (by omega)]
    rfl
  | j + 1, hj, K, x, hK, hx => by
    obtain ⟨K, rfl⟩ : ∃ m, K = m + 1 := ⟨K - 1, by omega⟩
    have hn25 : n ≤ 25 := by unfold nP at hn; omega
    have hj' : x = (j : Int) := by omega
    have hjl : 40 * j + 40 ≤ bs.length + 39 := by unfold nP at hn; omega
    simp only [chantryref06_built.l0]
    have w1 : wrap64 (x * 40) = x * 40 := wr (by omega) (by omega)
    have w2 : wrap64 (x + 1) = x + 1 := wr (by omega) (by omega)
    have w3 : wrap64 ((x + 1) * 40) = (x + 1) * 40 := wr (by omega) (by omega)
    have w4 : wrap64 (x - 1) = x - 1 := wr (by omega) (by omega)
    have hp := piece_eq bs j x hj' (by omega) (by omega)
    rw [if_pos (by omega), if_pos (by omega), if_pos (by rw [w1, w2, w3]; exact le_mn (by omega) (by omega)), if_pos (mn_le _ _), hp, ref_const_spec, Option.bind_some, leaf_const, if_neg (by omega)]
    have hacc : acc bs n (n - j) = Tm.two 112 (leaf bs j) (acc bs n (n - (j + 1))) := by
      have e : n - j = (n - (j + 1)) + 1 := by omega
      rw [e]
      show Tm.two 112 (leaf bs (n - 1 - (n - (j + 1)))) _ = _
      congr 2
      omega
    rw [ref_two2 K (by omega) _ _ (leaf_check _ _) (acc_check _ _ _ (by omega)) (by rw [← hacc]; exact acc_check _ _ _ (by omega)), Option.bind_some, ← hacc]
    exact ref_round bs hb n hn n' hn' j (by omega) K _ (by omega) (by rw [w4]; omega)
theorem ref_built_spec (k : Nat) (hk : 4300 ≤ k) (bs : List Int) (h0 : 0 < bs.length) (hb : bs.length ≤ 1006) : chantryref06_built.f k bs = some (btm bs).str := by
  unfold chantryref06_built.f
  obtain ⟨n, hn⟩ : ∃ n, n + 1 = nP bs := ⟨nP bs - 1, by unfold nP; omega⟩
  have hn2 := hn
  unfold nP at hn2
  have e : wrap64 (Int.tdiv (wrap64 ((bs.length : Int) - 1)) 40) = (n : Int) := by
    rw [wr (x := (bs.length : Int) - 1) (by omega) (by omega), Int.tdiv_eq_ediv_of_nonneg (by omega), wr (by omega) (by omega)]
    omega
  rw [e]
  clear e
  obtain ⟨K, rfl⟩ : ∃ m, k = m + 1 := ⟨k - 1, by omega⟩
  simp only [chantryref06_built.l0]
  have w1 : wrap64 ((n : Int) * 40) = (n : Int) * 40 := wr (by omega) (by omega)
  have w2 : wrap64 ((n : Int) + 1) = (n : Int) + 1 := wr (by omega) (by omega)
  have w3 : wrap64 (((n : Int) + 1) * 40) = ((n : Int) + 1) * 40 := wr (by omega) (by omega)
  have w4 : wrap64 ((n : Int) - 1) = (n : Int) - 1 := wr (by omega) (by omega)
  have hp := piece_eq bs n n rfl (by omega) (by omega)
  rw [if_pos (by omega), if_pos (by omega), if_pos (by rw [w1, w2, w3]; exact le_mn (by omega) (by omega)), if_pos (mn_le _ _), hp, ref_const_spec, Option.bind_some, leaf_const, if_pos trivial, w4]
  have e2 : (leaf bs n).str = (acc bs n (n - n)).str := by rw [Nat.sub_self]; rfl
  simp only []
  rw [e2, ref_round bs hb n hn n rfl n (Nat.le_refl _) K _ (by omega) rfl]
  unfold btm
  rw [← hn]
  rfl
theorem ref_tag_spec (k : Nat) (hk : 4300 ≤ k) (key : ByteArray) (a0 a1 a2 : Int) (l : List Int) (tg : ByteArray) (h0 : 0 ≤ a2) (h1 : a2 < 4294967296) : chantryref06_Tag.f k key a0 a1 a2 l tg = some (tagOf key a0 a1 a2 l) := by
  unfold chantryref06_Tag.f tagOf
  by_cases h : (l.length : Int) > 1000
  · rw [if_pos h, if_pos h]
  · have ht := text_len a0 a1 a2 l
    rw [if_neg h, if_neg h, text_spec a0 a1 a2 l tg h0 h1 (by omega), Option.bind_some, ref_built_spec k hk _ (by omega) (by omega), Option.bind_some]
    have e := ref_make_spec k (by omega) 109 [key, (btm (textOf a0 a1 a2 l)).str] (by simp)
    rw [show ((109 : UInt8).toNat : Int) = 109 from rfl] at e
    rw [e, Option.bind_some, make_two 109 rfl key _ (btm_ok _) (btm_check _ (by omega))]

/-! ### Keys -/
def keyOf (s : ByteArray) (a b : Int) : ByteArray × Int := if twoB a b = true then two2 100 s (.const (by8 [mn a b, mx a b])) else (⟨#[]⟩, 2)
theorem pair_const (a b : Int) : constOf (strOfNums [a, b]) = ((Tm.const (by8 [a, b])).str, 0) := by
  unfold constOf
  rw [if_neg (by rw [strOfNums_size]; simp), by8_str, strOf_data]
theorem pair_ok (a b : Int) : (Tm.const (by8 [a, b])).ok := by show (by8 [a, b]).length ≤ 40; rw [by8_len]; simp
theorem pair_check (a b : Int) : check (Tm.const (by8 [a, b])).str = 0 := check_str (pair_ok a b) (by show 1 ≤ 60; omega) (by simp [Tm.enc, by8_len])
theorem key_spec (s : ByteArray) (a b : Int) : link_Key.f s a b = some (keyOf s a b) := by
  unfold link_Key.f keyOf
  rw [two_spec, Option.bind_some]
  by_cases h : twoB a b = true
  · rw [if_pos h, if_pos h, const_spec, Option.bind_some, pair_const, make_spec 100 _ 100 rfl, Option.bind_some, make_two 100 rfl s _ (pair_ok _ _) (pair_check _ _)]
  · rw [if_neg h, if_neg h]
theorem ref_key_spec (k : Nat) (hk : 4100 ≤ k) (s : ByteArray) (a b : Int) : chantryref06_Key.f k s a b = some (keyOf s a b) := by
  unfold chantryref06_Key.f keyOf
  rw [ref_two_spec, Option.bind_some]
  by_cases h : twoB a b = true
  · rw [if_pos h, if_pos h, ref_const_spec, Option.bind_some, pair_const]
    have e := ref_make_spec k (by omega) 100 [s, (Tm.const (by8 [mn a b, mx a b])).str] (by simp)
    rw [show ((100 : UInt8).toNat : Int) = 100 from rfl] at e
    rw [e, Option.bind_some, make_two 100 rfl s _ (pair_ok _ _) (pair_check _ _)]
  · rw [if_neg h, if_neg h]

/-! ### Sending and accepting -/
def sendOf (key : ByteArray) (nx top came a b : Int) (l : List Int) : ByteArray × Int × Int × Int × Int × Int × Int × List Int × ByteArray × Int :=
  if twoB a b = true then
    (if nx = 4294967295 then (key, nx, top, came, 0, 0, 0, [], ⟨#[]⟩, 7)
     else if (tagOf key a b ((nx + 1) % 4294967296) l).2 = 0 then (key, (nx + 1) % 4294967296, top, came, a, b, (nx + 1) % 4294967296, l, (tagOf key a b ((nx + 1) % 4294967296) l).1, 0)
     else (key, nx, top, came, 0, 0, 0, [], ⟨#[]⟩, (tagOf key a b ((nx + 1) % 4294967296) l).2))
  else (key, nx, top, came, 0, 0, 0, [], ⟨#[]⟩, 2)
theorem send_spec (key : ByteArray) (nx top came a b : Int) (l : List Int) (hl : l.length < 140737488355328) : link_Send.f key nx top came a b l = some (sendOf key nx top came a b l) := by
  unfold link_Send.f sendOf
  rw [two_spec, Option.bind_some]
  by_cases h : twoB a b = true
  · rw [if_pos h, if_pos h]
    by_cases h2 : nx = 4294967295
    · rw [if_pos h2, if_pos h2]
    · rw [if_neg h2, if_neg h2]
      unfold slices_Clone_byte_byte.f
      rw [if_pos hl, Option.bind_some, tag_spec, Option.bind_some]
      by_cases h3 : (tagOf key a b ((nx + 1) % 4294967296) l).2 = 0
      · rw [if_pos h3, if_pos h3]
      · rw [if_neg h3, if_neg h3]
  · rw [if_neg h, if_neg h]
def acceptOf (key : ByteArray) (nx top came me a b sq : Int) (l : List Int) (tag : ByteArray) : ByteArray × Int × Int × Int × Int :=
  if b = me ∧ twoB a b = true ∧ sq ≠ 0 then
    (if (tagOf key a b sq l).2 = 0 then
      (if (tagOf key a b sq l).1 = tag then
        (if sq > top then (key, nx, sq, Go.bits .or .u64 (shl .u64 came ((sq - top) % 4294967296)) 1, 0)
         else if (top - sq) % 4294967296 ≥ 64 then (key, nx, top, came, 6)
         else if Go.bits .and .u64 (shr .u64 came ((top - sq) % 4294967296)) 1 = 1 then (key, nx, top, came, 6)
         else (key, nx, top, Go.bits .or .u64 came (shl .u64 1 ((top - sq) % 4294967296)), 0))
       else (key, nx, top, came, 5))
     else (key, nx, top, came, (tagOf key a b sq l).2))
  else (key, nx, top, came, 2)
theorem accept_spec (k : Nat) (hk : 1 ≤ k) (key : ByteArray) (nx top came me a b sq : Int) (l : List Int) (tag : ByteArray) : link_Accept.f k key nx top came me a b sq l tag = some (acceptOf key nx top came me a b sq l tag) := by
  obtain ⟨k, rfl⟩ : ∃ m, k = m + 1 := ⟨k - 1, by omega⟩
  have hbad : link_Accept.j0 (k + 1) true key nx top came a b sq l tag = some (key, nx, top, came, 2) := by
    simp only [link_Accept.j0]; rw [if_pos trivial]
  unfold link_Accept.f acceptOf
  by_cases h1 : b = me
  · rw [if_pos h1, two_spec, Option.bind_some]
    by_cases h2 : twoB a b = true
    · rw [if_pos h2]
      by_cases h3 : sq = 0
      · rw [if_neg (show ¬ (b = me ∧ twoB a b = true ∧ sq ≠ 0) from fun h => h.2.2 h3), show (sq == 0) = true from beq_iff_eq.mpr h3, hbad]
      · rw [if_pos (show b = me ∧ twoB a b = true ∧ sq ≠ 0 from ⟨h1, h2, h3⟩), show (sq == 0) = false from beq_eq_false_iff_ne.mpr h3]
        simp only [link_Accept.j0]
        rw [if_neg (by decide), tag_spec, Option.bind_some]
        by_cases h4 : (tagOf key a b sq l).2 = 0
        · rw [if_pos h4, if_pos h4]
          by_cases h5 : (tagOf key a b sq l).1 = tag
          · rw [if_pos ((toList_iff _ _).2 h5), if_pos h5]
            by_cases h6 : sq > top
            · rw [if_pos h6, if_pos h6]
            · rw [if_neg h6, if_neg h6]
              by_cases h7 : (top - sq) % 4294967296 ≥ 64
              · rw [if_pos h7, if_pos h7]
              · rw [if_neg h7, if_neg h7]
                by_cases h8 : Go.bits .and .u64 (shr .u64 came ((top - sq) % 4294967296)) 1 = 1
                · rw [if_pos h8, if_pos h8]
                · rw [if_neg h8, if_neg h8]
          · rw [if_neg (fun h => h5 ((toList_iff _ _).1 h)), if_neg h5]
        · rw [if_neg h4, if_neg h4]
    · rw [if_neg h2, if_neg (show ¬ (b = me ∧ twoB a b = true ∧ sq ≠ 0) from fun h => h2 h.2.1), hbad]
  · rw [if_neg h1, if_neg (show ¬ (b = me ∧ twoB a b = true ∧ sq ≠ 0) from fun h => h1 h.1), hbad]
end Go.Proofs.Ytimfhdpgkoonaaa.L06
