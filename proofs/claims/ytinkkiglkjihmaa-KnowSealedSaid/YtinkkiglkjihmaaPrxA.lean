-- Written by a program of this repo (wip/printx.py) out of the translation; Lean checks it.
import Derived.Test.YtinkkiglkjihmaaPrx0
namespace Go.Proofs.Ytinkkiglkjihmaa.Pr
open Go.RowKit Go.Proofs.YtinkkiglkjihmaaW.PrintWords Go.Proofs.YtinkkiglkjihmaaW.PrintLast Go.Proofs.YtinkkiglkjihmaaW.PrintMore
attribute [local go_sem] max2_int min2_int max_two min_two max_three min_three max_four min_four   -- for this text's walks alone
set_option linter.unusedVariables false
set_option linter.unusedSimpArgs false
/-! ### term_NewNonce: function 23 -/
def term_NewNonce.f (a0 : Int) : Option (ByteArray) := some (strOfNums (([110, (a0 / 256) % 256, (a0) % 256] : List Int)))
set_option maxHeartbeats 8000000 in
set_option maxRecDepth 100000 in
theorem term_NewNonce.calls (a0 : Int) (r : ByteArray) (w : World) (h : term_NewNonce.f a0 = some r) :
    Calls Try.prog 23 #[.int .u16 a0] w fun e w' => e = .returned (.string r) ∧ Below w.heap.size w w' := by
  have HB := Aside0.mk (Below.refl w.heap.size w)
  have H : (some (strOfNums (([110, (a0 / 256) % 256, (a0) % 256] : List Int)))) = some r := h
  clear h
  obtain ⟨y101, hy101⟩ : ∃ y_ : List Int, y_ = (([110, (a0 / 256) % 256, (a0) % 256] : List Int)) := ⟨_, rfl⟩
  replace H : (some (strOfNums y101)) = some r := by first | (rw [hy101]; with_reducible exact H) | (have H2_ := (Option.bind_some _ _).symm.trans H; rw [hy101]; with_reducible exact H2_) | (have H2_ := (Option.bind_some _ _).symm.trans H; with_reducible exact H2_) | with_reducible exact H | (rw [hy101]; exact H) | exact H
  have Ny101 := Aside0.mk hy101
  clear hy101
  obtain rfl := Option.some.inj H
  go_enter Try.func23, Try.ntmps23
  go_wp2_with (first | ((with_reducible refine gate_dst (N := 8) rfl ?_); refine Kd.R_lit (Kd.int .u8) _ 5 ?hg (N := 8) ?hd (xs := ([110, (a0 / 256) % 256, (a0) % 256] : List Int)) (inner := [.int .u8 110, .int .u8 ((a0 / 256) % 256), .int .u8 ((a0) % 256)]) (ok := fun _ => True) (okp := fun _ => True) ?hr ?hp (fun _ hk => hk) trivial (Below.refl _ _) (Nat.le_refl _) (by simp) ?_; (case hd => rfl); (case hg => rfl); (case hr => first | (go_simp; done) | (go_simp; rfl)); (case hp => exact (Reps.one (show Kd.M (Kd.int .u8) _ _ _ 110 [.int .u8 110] from rfl) (Reps.one (show Kd.M (Kd.int .u8) _ _ _ ((a0 / 256) % 256) [.int .u8 ((a0 / 256) % 256)] from rfl) (Reps.one (show Kd.M (Kd.int .u8) _ _ _ ((a0) % 256) [.int .u8 ((a0) % 256)] from rfl) (Reps.none _ _))))); intro v102 w2 ho3 hb hg_ hnew_; clear hg_ hnew_; (first | rw [← Ny101.out] at ho3 | (simp only [Int.reduceToNat] at ho3; rw [← Ny101.out] at ho3)); have n0_ := Aside0.mk (Kd.R_lower ho3 (below_size (by repeat (first | (with_reducible first | exact HB.out | apply below_alloc | apply pw_below_drewN | apply below_drew1) | exact HB.out)))); have n1_ := Aside0.mk (below_step (by repeat (first | (with_reducible first | exact HB.out | apply below_alloc | apply pw_below_drewN | apply below_drew1) | exact HB.out)) hb); clear HB; have HO103 := n0_; have HB := n1_; clear n0_ n1_; clear hb ho3; have hcv4 := own_string (P := Try.prog) Try.underlying49 Try.underlying5 Try.underlying23 (Kd.own_of_R HO103.out)))
  go_ret
  exact ⟨by first | rfl | (simp [errW_none, errW_some] <;> rfl) | (simp [*, errW_none, errW_some] <;> rfl), by repeat (first | (with_reducible first | exact HB.out | apply below_alloc | apply pw_below_drewN | apply below_drew1) | exact HB.out)⟩

/-! ### chantrylaw04_alive: function 11 -/
def chantrylaw04_alive.f  : Option (Bool) := (term_NewNonce.f 1).bind fun t104 => ((term_NewNonce.f 2).bind fun t105 => (if 1 + t104.size ≤ 9223372036854775807 then (if ((⟨#[115]⟩ : ByteArray) ++ t104).size + t105.size ≤ 9223372036854775807 then ((know_Derives.f (([((⟨#[115]⟩ : ByteArray) ++ t104) ++ t105, t104] : List ByteArray)) t105).bind fun bt109 => ((know_Derives.f (([((⟨#[115]⟩ : ByteArray) ++ t104) ++ t105] : List ByteArray)) t105).bind fun bt114 => ((know_Known.f (([((⟨#[115]⟩ : ByteArray) ++ t104) ++ t105, t104] : List ByteArray))).bind fun bt119 => (if ((⟨#[112]⟩ : ByteArray) ++ t104).size + t105.size ≤ 9223372036854775807 then (if 1 + t105.size ≤ 9223372036854775807 then ((know_Derives.f (([((⟨#[112]⟩ : ByteArray) ++ t104) ++ t105] : List ByteArray)) ((⟨#[104]⟩ : ByteArray) ++ t105)).bind fun bt126 => (if t104.toList = ([110, 0, 1] : List UInt8) then (if bt109.1 = true then (if bt109.2 = 0 then (if bt114.1 = true then (some false) else (if bt114.2 = 0 then (if bt119.2 = 0 then (if (bt119.1.length : Int) = 3 then (if bt126.1 = true then (some (bt126.2 == 0)) else (some false)) else (some false)) else (some false)) else (some false))) else (some false)) else (some false)) else (some false))) else (none)) else (none))))) else (none)) else (none)))
set_option maxHeartbeats 8000000 in
set_option maxRecDepth 100000 in
theorem chantrylaw04_alive.calls  (r : Bool) (w : World) (h : chantrylaw04_alive.f  = some r) (HTRUE : r = true := by rfl) :
    Calls Try.prog 11 #[] w fun e w' => e = .returned (.bool r) ∧ Below w.heap.size w w' := by
  have HB := Aside0.mk (Below.refl w.heap.size w)
  have H : ((term_NewNonce.f 1).bind fun t104 => ((term_NewNonce.f 2).bind fun t105 => (if 1 + t104.size ≤ 9223372036854775807 then (if ((⟨#[115]⟩ : ByteArray) ++ t104).size + t105.size ≤ 9223372036854775807 then ((know_Derives.f (([((⟨#[115]⟩ : ByteArray) ++ t104) ++ t105, t104] : List ByteArray)) t105).bind fun bt109 => ((know_Derives.f (([((⟨#[115]⟩ : ByteArray) ++ t104) ++ t105] : List ByteArray)) t105).bind fun bt114 => ((know_Known.f (([((⟨#[115]⟩ : ByteArray) ++ t104) ++ t105, t104] : List ByteArray))).bind fun bt119 => (if ((⟨#[112]⟩ : ByteArray) ++ t104).size + t105.size ≤ 9223372036854775807 then (if 1 + t105.size ≤ 9223372036854775807 then ((know_Derives.f (([((⟨#[112]⟩ : ByteArray) ++ t104) ++ t105] : List ByteArray)) ((⟨#[104]⟩ : ByteArray) ++ t105)).bind fun bt126 => (if t104.toList = ([110, 0, 1] : List UInt8) then (if bt109.1 = true then (if bt109.2 = 0 then (if bt114.1 = true then (some false) else (if bt114.2 = 0 then (if bt119.2 = 0 then (if (bt119.1.length : Int) = 3 then (if bt126.1 = true then (some (bt126.2 == 0)) else (some false)) else (some false)) else (some false)) else (some false))) else (some false)) else (some false)) else (some false))) else (none)) else (none))))) else (none)) else (none)))) = some r := h
  clear h
  replace H := Option.bind_eq_some_iff.mp H
  obtain ⟨t104, A10, H⟩ := H
  replace H : ((term_NewNonce.f 2).bind fun t105 => (if 1 + t104.size ≤ 9223372036854775807 then (if ((⟨#[115]⟩ : ByteArray) ++ t104).size + t105.size ≤ 9223372036854775807 then ((know_Derives.f (([((⟨#[115]⟩ : ByteArray) ++ t104) ++ t105, t104] : List ByteArray)) t105).bind fun bt109 => ((know_Derives.f (([((⟨#[115]⟩ : ByteArray) ++ t104) ++ t105] : List ByteArray)) t105).bind fun bt114 => ((know_Known.f (([((⟨#[115]⟩ : ByteArray) ++ t104) ++ t105, t104] : List ByteArray))).bind fun bt119 => (if ((⟨#[112]⟩ : ByteArray) ++ t104).size + t105.size ≤ 9223372036854775807 then (if 1 + t105.size ≤ 9223372036854775807 then ((know_Derives.f (([((⟨#[112]⟩ : ByteArray) ++ t104) ++ t105] : List ByteArray)) ((⟨#[104]⟩ : ByteArray) ++ t105)).bind fun bt126 => (if t104.toList = ([110, 0, 1] : List UInt8) then (if bt109.1 = true then (if bt109.2 = 0 then (if bt114.1 = true then (some false) else (if bt114.2 = 0 then (if bt119.2 = 0 then (if (bt119.1.length : Int) = 3 then (if bt126.1 = true then (some (bt126.2 == 0)) else (some false)) else (some false)) else (some false)) else (some false))) else (some false)) else (some false)) else (some false))) else (none)) else (none))))) else (none)) else (none))) = some r := H
  have A1 := Aside0.mk A10
  clear A10
  replace H := Option.bind_eq_some_iff.mp H
  obtain ⟨t105, A20, H⟩ := H
  replace H : (if 1 + t104.size ≤ 9223372036854775807 then (if ((⟨#[115]⟩ : ByteArray) ++ t104).size + t105.size ≤ 9223372036854775807 then ((know_Derives.f (([((⟨#[115]⟩ : ByteArray) ++ t104) ++ t105, t104] : List ByteArray)) t105).bind fun bt109 => ((know_Derives.f (([((⟨#[115]⟩ : ByteArray) ++ t104) ++ t105] : List ByteArray)) t105).bind fun bt114 => ((know_Known.f (([((⟨#[115]⟩ : ByteArray) ++ t104) ++ t105, t104] : List ByteArray))).bind fun bt119 => (if ((⟨#[112]⟩ : ByteArray) ++ t104).size + t105.size ≤ 9223372036854775807 then (if 1 + t105.size ≤ 9223372036854775807 then ((know_Derives.f (([((⟨#[112]⟩ : ByteArray) ++ t104) ++ t105] : List ByteArray)) ((⟨#[104]⟩ : ByteArray) ++ t105)).bind fun bt126 => (if t104.toList = ([110, 0, 1] : List UInt8) then (if bt109.1 = true then (if bt109.2 = 0 then (if bt114.1 = true then (some false) else (if bt114.2 = 0 then (if bt119.2 = 0 then (if (bt119.1.length : Int) = 3 then (if bt126.1 = true then (some (bt126.2 == 0)) else (some false)) else (some false)) else (some false)) else (some false))) else (some false)) else (some false)) else (some false))) else (none)) else (none))))) else (none)) else (none)) = some r := H
  have A2 := Aside0.mk A20
  clear A20
  by_cases c3 : 1 + t104.size ≤ 9223372036854775807
  · rw [if_pos c3] at H
    have c3b0 := eq_true c3
    have c3b1 : decide (1 + t104.size ≤ 9223372036854775807) = true := decide_eq_true c3
    try have c3b2 : (9223372036854775807 < 1 + t104.size) = False := eq_false (Nat.not_lt.2 c3)
    by_cases c4 : ((⟨#[115]⟩ : ByteArray) ++ t104).size + t105.size ≤ 9223372036854775807
    · rw [if_pos c4] at H
      have c4b0 := eq_true c4
      have c4b1 : decide (((⟨#[115]⟩ : ByteArray) ++ t104).size + t105.size ≤ 9223372036854775807) = true := decide_eq_true c4
      try have c4b2 : (9223372036854775807 < ((⟨#[115]⟩ : ByteArray) ++ t104).size + t105.size) = False := eq_false (Nat.not_lt.2 c4)
      obtain ⟨y106, hy106⟩ : ∃ y_ : List ByteArray, y_ = (([((⟨#[115]⟩ : ByteArray) ++ t104) ++ t105, t104] : List ByteArray)) := ⟨_, rfl⟩
      replace H : ((know_Derives.f y106 t105).bind fun bt109 => ((know_Derives.f (([((⟨#[115]⟩ : ByteArray) ++ t104) ++ t105] : List ByteArray)) t105).bind fun bt114 => ((know_Known.f (([((⟨#[115]⟩ : ByteArray) ++ t104) ++ t105, t104] : List ByteArray))).bind fun bt119 => (if ((⟨#[112]⟩ : ByteArray) ++ t104).size + t105.size ≤ 9223372036854775807 then (if 1 + t105.size ≤ 9223372036854775807 then ((know_Derives.f (([((⟨#[112]⟩ : ByteArray) ++ t104) ++ t105] : List ByteArray)) ((⟨#[104]⟩ : ByteArray) ++ t105)).bind fun bt126 => (if t104.toList = ([110, 0, 1] : List UInt8) then (if bt109.1 = true then (if bt109.2 = 0 then (if bt114.1 = true then (some false) else (if bt114.2 = 0 then (if bt119.2 = 0 then (if (bt119.1.length : Int) = 3 then (if bt126.1 = true then (some (bt126.2 == 0)) else (some false)) else (some false)) else (some false)) else (some false))) else (some false)) else (some false)) else (some false))) else (none)) else (none))))) = some r := by first | (rw [hy106]; with_reducible exact H) | (have H2_ := (Option.bind_some _ _).symm.trans H; rw [hy106]; with_reducible exact H2_) | (have H2_ := (Option.bind_some _ _).symm.trans H; with_reducible exact H2_) | with_reducible exact H | (rw [hy106]; exact H) | exact H
      have Ny106 := Aside0.mk hy106
      clear hy106
      replace H := Option.bind_eq_some_iff.mp H
      obtain ⟨⟨t109, t110⟩, A50, H⟩ := H
      replace H : ((know_Derives.f (([((⟨#[115]⟩ : ByteArray) ++ t104) ++ t105] : List ByteArray)) t105).bind fun bt114 => ((know_Known.f (([((⟨#[115]⟩ : ByteArray) ++ t104) ++ t105, t104] : List ByteArray))).bind fun bt119 => (if ((⟨#[112]⟩ : ByteArray) ++ t104).size + t105.size ≤ 9223372036854775807 then (if 1 + t105.size ≤ 9223372036854775807 then ((know_Derives.f (([((⟨#[112]⟩ : ByteArray) ++ t104) ++ t105] : List ByteArray)) ((⟨#[104]⟩ : ByteArray) ++ t105)).bind fun bt126 => (if t104.toList = ([110, 0, 1] : List UInt8) then (if t109 = true then (if t110 = 0 then (if bt114.1 = true then (some false) else (if bt114.2 = 0 then (if bt119.2 = 0 then (if (bt119.1.length : Int) = 3 then (if bt126.1 = true then (some (bt126.2 == 0)) else (some false)) else (some false)) else (some false)) else (some false))) else (some false)) else (some false)) else (some false))) else (none)) else (none)))) = some r := H
      have A5 := Aside0.mk A50
      clear A50
      obtain ⟨y111, hy111⟩ : ∃ y_ : List ByteArray, y_ = (([((⟨#[115]⟩ : ByteArray) ++ t104) ++ t105] : List ByteArray)) := ⟨_, rfl⟩
      replace H : ((know_Derives.f y111 t105).bind fun bt114 => ((know_Known.f (([((⟨#[115]⟩ : ByteArray) ++ t104) ++ t105, t104] : List ByteArray))).bind fun bt119 => (if ((⟨#[112]⟩ : ByteArray) ++ t104).size + t105.size ≤ 9223372036854775807 then (if 1 + t105.size ≤ 9223372036854775807 then ((know_Derives.f (([((⟨#[112]⟩ : ByteArray) ++ t104) ++ t105] : List ByteArray)) ((⟨#[104]⟩ : ByteArray) ++ t105)).bind fun bt126 => (if t104.toList = ([110, 0, 1] : List UInt8) then (if t109 = true then (if t110 = 0 then (if bt114.1 = true then (some false) else (if bt114.2 = 0 then (if bt119.2 = 0 then (if (bt119.1.length : Int) = 3 then (if bt126.1 = true then (some (bt126.2 == 0)) else (some false)) else (some false)) else (some false)) else (some false))) else (some false)) else (some false)) else (some false))) else (none)) else (none)))) = some r := by first | (rw [hy111]; with_reducible exact H) | (have H2_ := (Option.bind_some _ _).symm.trans H; rw [hy111]; with_reducible exact H2_) | (have H2_ := (Option.bind_some _ _).symm.trans H; with_reducible exact H2_) | with_reducible exact H | (rw [hy111]; exact H) | exact H
      have Ny111 := Aside0.mk hy111
      clear hy111
      replace H := Option.bind_eq_some_iff.mp H
      obtain ⟨⟨t114, t115⟩, A60, H⟩ := H
      replace H : ((know_Known.f (([((⟨#[115]⟩ : ByteArray) ++ t104) ++ t105, t104] : List ByteArray))).bind fun bt119 => (if ((⟨#[112]⟩ : ByteArray) ++ t104).size + t105.size ≤ 9223372036854775807 then (if 1 + t105.size ≤ 9223372036854775807 then ((know_Derives.f (([((⟨#[112]⟩ : ByteArray) ++ t104) ++ t105] : List ByteArray)) ((⟨#[104]⟩ : ByteArray) ++ t105)).bind fun bt126 => (if t104.toList = ([110, 0, 1] : List UInt8) then (if t109 = true then (if t110 = 0 then (if t114 = true then (some false) else (if t115 = 0 then (if bt119.2 = 0 then (if (bt119.1.length : Int) = 3 then (if bt126.1 = true then (some (bt126.2 == 0)) else (some false)) else (some false)) else (some false)) else (some false))) else (some false)) else (some false)) else (some false))) else (none)) else (none))) = some r := H
      have A6 := Aside0.mk A60
      clear A60
      obtain ⟨y116, hy116⟩ : ∃ y_ : List ByteArray, y_ = (([((⟨#[115]⟩ : ByteArray) ++ t104) ++ t105, t104] : List ByteArray)) := ⟨_, rfl⟩
      replace H : ((know_Known.f y116).bind fun bt119 => (if ((⟨#[112]⟩ : ByteArray) ++ t104).size + t105.size ≤ 9223372036854775807 then (if 1 + t105.size ≤ 9223372036854775807 then ((know_Derives.f (([((⟨#[112]⟩ : ByteArray) ++ t104) ++ t105] : List ByteArray)) ((⟨#[104]⟩ : ByteArray) ++ t105)).bind fun bt126 => (if t104.toList = ([110, 0, 1] : List UInt8) then (if t109 = true then (if t110 = 0 then (if t114 = true then (some false) else (if t115 = 0 then (if bt119.2 = 0 then (if (bt119.1.length : Int) = 3 then (if bt126.1 = true then (some (bt126.2 == 0)) else (some false)) else (some false)) else (some false)) else (some false))) else (some false)) else (some false)) else (some false))) else (none)) else (none))) = some r := by first | (rw [hy116]; with_reducible exact H) | (have H2_ := (Option.bind_some _ _).symm.trans H; rw [hy116]; with_reducible exact H2_) | (have H2_ := (Option.bind_some _ _).symm.trans H; with_reducible exact H2_) | with_reducible exact H | (rw [hy116]; exact H) | exact H
      have Ny116 := Aside0.mk hy116
      clear hy116
      replace H := Option.bind_eq_some_iff.mp H
      obtain ⟨⟨t119, t120⟩, A70, H⟩ := H
      replace H : (if ((⟨#[112]⟩ : ByteArray) ++ t104).size + t105.size ≤ 9223372036854775807 then (if 1 + t105.size ≤ 9223372036854775807 then ((know_Derives.f (([((⟨#[112]⟩ : ByteArray) ++ t104) ++ t105] : List ByteArray)) ((⟨#[104]⟩ : ByteArray) ++ t105)).bind fun bt126 => (if t104.toList = ([110, 0, 1] : List UInt8) then (if t109 = true then (if t110 = 0 then (if t114 = true then (some false) else (if t115 = 0 then (if t120 = 0 then (if (t119.length : Int) = 3 then (if bt126.1 = true then (some (bt126.2 == 0)) else (some false)) else (some false)) else (some false)) else (some false))) else (some false)) else (some false)) else (some false))) else (none)) else (none)) = some r := H
      have A7 := Aside0.mk A70
      clear A70
      by_cases c8 : ((⟨#[112]⟩ : ByteArray) ++ t104).size + t105.size ≤ 9223372036854775807
      · rw [if_pos c8] at H
        have c8b0 := eq_true c8
        have c8b1 : decide (((⟨#[112]⟩ : ByteArray) ++ t104).size + t105.size ≤ 9223372036854775807) = true := decide_eq_true c8
        try have c8b2 : (9223372036854775807 < ((⟨#[112]⟩ : ByteArray) ++ t104).size + t105.size) = False := eq_false (Nat.not_lt.2 c8)
        obtain ⟨y123, hy123⟩ : ∃ y_ : List ByteArray, y_ = (([((⟨#[112]⟩ : ByteArray) ++ t104) ++ t105] : List ByteArray)) := ⟨_, rfl⟩
        replace H : (if 1 + t105.size ≤ 9223372036854775807 then ((know_Derives.f y123 ((⟨#[104]⟩ : ByteArray) ++ t105)).bind fun bt126 => (if t104.toList = ([110, 0, 1] : List UInt8) then (if t109 = true then (if t110 = 0 then (if t114 = true then (some false) else (if t115 = 0 then (if t120 = 0 then (if (t119.length : Int) = 3 then (if bt126.1 = true then (some (bt126.2 == 0)) else (some false)) else (some false)) else (some false)) else (some false))) else (some false)) else (some false)) else (some false))) else (none)) = some r := by first | (rw [hy123]; with_reducible exact H) | (have H2_ := (Option.bind_some _ _).symm.trans H; rw [hy123]; with_reducible exact H2_) | (have H2_ := (Option.bind_some _ _).symm.trans H; with_reducible exact H2_) | with_reducible exact H | (rw [hy123]; exact H) | exact H
        have Ny123 := Aside0.mk hy123
        clear hy123
        by_cases c9 : 1 + t105.size ≤ 9223372036854775807
        · rw [if_pos c9] at H
          have c9b0 := eq_true c9
          have c9b1 : decide (1 + t105.size ≤ 9223372036854775807) = true := decide_eq_true c9
          try have c9b2 : (9223372036854775807 < 1 + t105.size) = False := eq_false (Nat.not_lt.2 c9)
          replace H := Option.bind_eq_some_iff.mp H
          obtain ⟨⟨t126, t127⟩, A100, H⟩ := H
          replace H : (if t104.toList = ([110, 0, 1] : List UInt8) then (if t109 = true then (if t110 = 0 then (if t114 = true then (some false) else (if t115 = 0 then (if t120 = 0 then (if (t119.length : Int) = 3 then (if t126 = true then (some (t127 == 0)) else (some false)) else (some false)) else (some false)) else (some false))) else (some false)) else (some false)) else (some false)) = some r := H
          have A10 := Aside0.mk A100
          clear A100
          by_cases c11 : t104.toList = ([110, 0, 1] : List UInt8)
          · rw [if_pos c11] at H
            have c11b0 : (t104.toList == ([110, 0, 1] : List UInt8)) = true := beq_iff_eq.mpr c11
            have c11b1 : (t104.toList != ([110, 0, 1] : List UInt8)) = false := bne_eq_false_iff_eq.mpr c11
            clear c11
            by_cases c12 : t109 = true
            · subst c12
              have H1 : (if t110 = 0 then (if t114 = true then (some false) else (if t115 = 0 then (if t120 = 0 then (if (t119.length : Int) = 3 then (if t126 = true then (some (t127 == 0)) else (some false)) else (some false)) else (some false)) else (some false))) else (some false)) = some r := by rw [if_pos rfl] at H; exact H
              clear H
              have H := H1
              clear H1
              by_cases c13 : t110 = 0
              · rw [if_pos c13] at H
                have c13b0 : (t110 == 0) = true := beq_iff_eq.mpr c13
                have c13b1 : (t110 != 0) = false := bne_eq_false_iff_eq.mpr c13
                clear c13
                by_cases c14 : t114 = true
                · subst c14
                  have H1 : (some false) = some r := by rw [if_pos rfl] at H; exact H
                  clear H
                  have H := H1
                  clear H1
                  exact absurd ((Option.some.inj H).trans HTRUE) (by decide)
                · replace c14 := Bool.eq_false_iff.mpr c14
                  subst c14
                  have H1 : (if t115 = 0 then (if t120 = 0 then (if (t119.length : Int) = 3 then (if t126 = true then (some (t127 == 0)) else (some false)) else (some false)) else (some false)) else (some false)) = some r := by rw [if_neg (show ¬ (false = true) by decide)] at H; exact H
                  clear H
                  have H := H1
                  clear H1
                  by_cases c33 : t115 = 0
                  · rw [if_pos c33] at H
                    have c33b0 : (t115 == 0) = true := beq_iff_eq.mpr c33
                    have c33b1 : (t115 != 0) = false := bne_eq_false_iff_eq.mpr c33
                    clear c33
                    by_cases c34 : t120 = 0
                    · rw [if_pos c34] at H
                      have c34b0 : (t120 == 0) = true := beq_iff_eq.mpr c34
                      have c34b1 : (t120 != 0) = false := bne_eq_false_iff_eq.mpr c34
                      clear c34
                      by_cases c35 : (t119.length : Int) = 3
                      · rw [if_pos c35] at H
                        have c35b0 : ((t119.length : Int) == 3) = true := beq_iff_eq.mpr c35
                        have c35b1 : ((t119.length : Int) != 3) = false := bne_eq_false_iff_eq.mpr c35
                        clear c35
                        by_cases c36 : t126 = true
                        · subst c36
                          have H1 : (some (t127 == 0)) = some r := by rw [if_pos rfl] at H; exact H
                          clear H
                          have H := H1
                          clear H1
                          obtain rfl := Option.some.inj H
                          go_enter Try.func11, Try.ntmps11
                          go_wp2_with (first | ((with_reducible refine gate_callee (f := 23) rfl ?_); refine goesL_ (some 12) rfl rfl Try.func23 (by kernel_rfl) rfl #[.int .u16 1] rfl (by (try simp only [List.map_toArray, List.map_cons, List.map_nil]); first | done | rfl | (simp only [List.length_drop, List.length_take]; rfl)) ?_; (with_reducible refine (term_NewNonce.calls 1 t104 _ A1.out).mono ?_); rintro e w37 ⟨rfl, hb⟩; refine ⟨_, rfl, ?_⟩; have n0_ := Aside0.mk (below_step (by repeat (first | (with_reducible first | exact HB.out | apply below_alloc | apply pw_below_drewN | apply below_drew1) | exact HB.out)) hb); clear HB; have HB := n0_; clear n0_; (try clear hb); (try clear hb2); (try clear hk); (try clear hi)) | ((with_reducible refine gate_callee (f := 23) rfl ?_); refine goesL_ (some 13) rfl rfl Try.func23 (by kernel_rfl) rfl #[.int .u16 2] rfl (by (try simp only [List.map_toArray, List.map_cons, List.map_nil]); first | done | rfl | (simp only [List.length_drop, List.length_take]; rfl)) ?_; (with_reducible refine (term_NewNonce.calls 2 t105 _ A2.out).mono ?_); rintro e w38 ⟨rfl, hb⟩; refine ⟨_, rfl, ?_⟩; have n0_ := Aside0.mk (below_step (by repeat (first | (with_reducible first | exact HB.out | apply below_alloc | apply pw_below_drewN | apply below_drew1) | exact HB.out)) hb); clear HB; have HB := n0_; clear n0_; (try clear hb); (try clear hb2); (try clear hk); (try clear hi)) | ((with_reducible refine gate_dst (N := 21) rfl ?_); (try (refine gate_guard (by rfl) ?_; dsimp only)); refine Kd.R_lit Kd.string _ 23 ?hg (N := 21) ?hd (xs := ([((⟨#[115]⟩ : ByteArray) ++ t104) ++ t105, t104] : List ByteArray)) (inner := [.string (((⟨#[115]⟩ : ByteArray) ++ t104) ++ t105), .string t104]) (ok := fun _ => True) (okp := fun _ => True) ?hr ?hp (fun _ hk => hk) trivial (Below.refl _ _) (Nat.le_refl _) (by simp) ?_; (case hd => rfl); (case hg => rfl); (case hr => first | (go_simp; done) | (go_simp; rfl)); (case hp => exact (Reps.one (show Kd.M Kd.string _ _ _ (((⟨#[115]⟩ : ByteArray) ++ t104) ++ t105) [.string (((⟨#[115]⟩ : ByteArray) ++ t104) ++ t105)] from rfl) (Reps.one (show Kd.M Kd.string _ _ _ t104 [.string t104] from rfl) (Reps.none _ _)))); intro v107 w39 ho40 hb hg_ hnew_; clear hg_ hnew_; (first | rw [← Ny106.out] at ho40 | (simp only [Int.reduceToNat] at ho40; rw [← Ny106.out] at ho40)); have n0_ := Aside0.mk (Kd.R_lower ho40 (below_size (by repeat (first | (with_reducible first | exact HB.out | apply below_alloc | apply pw_below_drewN | apply below_drew1) | exact HB.out)))); have n1_ := Aside0.mk (below_step (by repeat (first | (with_reducible first | exact HB.out | apply below_alloc | apply pw_below_drewN | apply below_drew1) | exact HB.out)) hb); clear HB; have HO108 := n0_; have HB := n1_; clear n0_ n1_; clear hb ho40; obtain ⟨Ao41, co41, eo41⟩ := Kd.R_slice HO108.out; subst eo41) | ((with_reducible refine gate_callee (f := 15) rfl ?_); refine goesL_ (some 23) rfl rfl Try.func15 (by kernel_rfl) rfl #[.slice Ao41 y106.length co41, .string t105] rfl (by (try simp only [List.map_toArray, List.map_cons, List.map_nil]); first | done | rfl | (simp only [List.length_drop, List.length_take]; rfl)) ?_; (with_reducible refine (know_Derives.calls _ _ y106 t105 true t110 _ ?side1 ?side2 A5.out).mono ?_); (case side1 => repeat (first | exact (Kd.R_reads' HO108.out).2.2 | (with_reducible refine Kd.C_alloc ?_ _) | (with_reducible refine Kd.C_drewN ?_ _) | (with_reducible refine Kd.C_drew ?_))); (case side2 => exact (Kd.R_reads' HO108.out).2.1); rintro e w42 ⟨rfl, hb⟩; refine ⟨_, rfl, ?_⟩; have n0_ := Aside0.mk (Kd.R_below (by (with_reducible repeat (first | apply Kd.R_alloc | apply Kd.R_drewN | apply Kd.R_drew)); exact HO108.out) hb); have n1_ := Aside0.mk (below_step (by repeat (first | (with_reducible first | exact HB.out | apply below_alloc | apply pw_below_drewN | apply below_drew1) | exact HB.out)) hb); clear HO108; clear HB; have HO108 := n0_; have HB := n1_; clear n0_ n1_; (try clear hb); (try clear hb2); (try clear hk); (try clear hi)) | ((with_reducible refine gate_dst (N := 28) rfl ?_); (try (refine gate_guard (by rfl) ?_; dsimp only)); refine Kd.R_lit Kd.string _ 23 ?hg (N := 28) ?hd (xs := ([((⟨#[115]⟩ : ByteArray) ++ t104) ++ t105] : List ByteArray)) (inner := [.string (((⟨#[115]⟩ : ByteArray) ++ t104) ++ t105)]) (ok := fun _ => True) (okp := fun _ => True) ?hr ?hp (fun _ hk => hk) trivial (Below.refl _ _) (Nat.le_refl _) (by simp) ?_; (case hd => rfl); (case hg => rfl); (case hr => first | (go_simp; done) | (go_simp; rfl)); (case hp => exact (Reps.one (show Kd.M Kd.string _ _ _ (((⟨#[115]⟩ : ByteArray) ++ t104) ++ t105) [.string (((⟨#[115]⟩ : ByteArray) ++ t104) ++ t105)] from rfl) (Reps.none _ _))); intro v112 w43 ho44 hb hg_ hnew_; clear hg_ hnew_; (first | rw [← Ny111.out] at ho44 | (simp only [Int.reduceToNat] at ho44; rw [← Ny111.out] at ho44)); have n0_ := Aside0.mk (Kd.R_elder' (by (with_reducible repeat (first | apply Kd.R_alloc | apply Kd.R_drewN | apply Kd.R_drew)); exact HO108.out) (Kd.R_base ho44) hb); have n1_ := Aside0.mk (Kd.R_lower (Kd.R_new' ho44 (Kd.R_lt (by (with_reducible repeat (first | apply Kd.R_alloc | apply Kd.R_drewN | apply Kd.R_drew)); exact HO108.out))) (below_size (by repeat (first | (with_reducible first | exact HB.out | apply below_alloc | apply pw_below_drewN | apply below_drew1) | exact HB.out)))); have n2_ := Aside0.mk (below_step (by repeat (first | (with_reducible first | exact HB.out | apply below_alloc | apply pw_below_drewN | apply below_drew1) | exact HB.out)) hb); clear HO108; clear HB; have HO108 := n0_; have HO113 := n1_; have HB := n2_; clear n0_ n1_ n2_; clear hb ho44; obtain ⟨Ao45, co45, eo45⟩ := Kd.R_slice HO113.out; subst eo45) | ((with_reducible refine gate_callee (f := 15) rfl ?_); refine goesL_ (some 30) rfl rfl Try.func15 (by kernel_rfl) rfl #[.slice Ao45 y111.length co45, .string t105] rfl (by (try simp only [List.map_toArray, List.map_cons, List.map_nil]); first | done | rfl | (simp only [List.length_drop, List.length_take]; rfl)) ?_; (with_reducible refine (know_Derives.calls _ _ y111 t105 false t115 _ ?side1 ?side2 A6.out).mono ?_); (case side1 => repeat (first | exact (Kd.R_reads' HO113.out).2.2 | (with_reducible refine Kd.C_alloc ?_ _) | (with_reducible refine Kd.C_drewN ?_ _) | (with_reducible refine Kd.C_drew ?_))); (case side2 => exact (Kd.R_reads' HO113.out).2.1); rintro e w46 ⟨rfl, hb⟩; refine ⟨_, rfl, ?_⟩; have n0_ := Aside0.mk (Kd.R_below (by (with_reducible repeat (first | apply Kd.R_alloc | apply Kd.R_drewN | apply Kd.R_drew)); exact HO108.out) hb); have n1_ := Aside0.mk (Kd.R_below (by (with_reducible repeat (first | apply Kd.R_alloc | apply Kd.R_drewN | apply Kd.R_drew)); exact HO113.out) hb); have n2_ := Aside0.mk (below_step (by repeat (first | (with_reducible first | exact HB.out | apply below_alloc | apply pw_below_drewN | apply below_drew1) | exact HB.out)) hb); clear HO108; clear HO113; clear HB; have HO108 := n0_; have HO113 := n1_; have HB := n2_; clear n0_ n1_ n2_; (try clear hb); (try clear hb2); (try clear hk); (try clear hi)) | ((with_reducible refine gate_dst (N := 36) rfl ?_); (try (refine gate_guard (by rfl) ?_; dsimp only)); refine Kd.R_lit Kd.string _ 23 ?hg (N := 36) ?hd (xs := ([((⟨#[115]⟩ : ByteArray) ++ t104) ++ t105, t104] : List ByteArray)) (inner := [.string (((⟨#[115]⟩ : ByteArray) ++ t104) ++ t105), .string t104]) (ok := fun _ => True) (okp := fun _ => True) ?hr ?hp (fun _ hk => hk) trivial (Below.refl _ _) (Nat.le_refl _) (by simp) ?_; (case hd => rfl); (case hg => rfl); (case hr => first | (go_simp; done) | (go_simp; rfl)); (case hp => exact (Reps.one (show Kd.M Kd.string _ _ _ (((⟨#[115]⟩ : ByteArray) ++ t104) ++ t105) [.string (((⟨#[115]⟩ : ByteArray) ++ t104) ++ t105)] from rfl) (Reps.one (show Kd.M Kd.string _ _ _ t104 [.string t104] from rfl) (Reps.none _ _)))); intro v117 w47 ho48 hb hg_ hnew_; clear hg_ hnew_; (first | rw [← Ny116.out] at ho48 | (simp only [Int.reduceToNat] at ho48; rw [← Ny116.out] at ho48)); have n0_ := Aside0.mk (Kd.R_elder' (by (with_reducible repeat (first | apply Kd.R_alloc | apply Kd.R_drewN | apply Kd.R_drew)); exact HO108.out) (Kd.R_base ho48) hb); have n1_ := Aside0.mk (Kd.R_elder' (by (with_reducible repeat (first | apply Kd.R_alloc | apply Kd.R_drewN | apply Kd.R_drew)); exact HO113.out) (Kd.R_base ho48) hb); have n2_ := Aside0.mk (Kd.R_lower (Kd.R_new' (Kd.R_new' ho48 (Kd.R_lt (by (with_reducible repeat (first | apply Kd.R_alloc | apply Kd.R_drewN | apply Kd.R_drew)); exact HO108.out))) (Kd.R_lt (by (with_reducible repeat (first | apply Kd.R_alloc | apply Kd.R_drewN | apply Kd.R_drew)); exact HO113.out))) (below_size (by repeat (first | (with_reducible first | exact HB.out | apply below_alloc | apply pw_below_drewN | apply below_drew1) | exact HB.out)))); have n3_ := Aside0.mk (below_step (by repeat (first | (with_reducible first | exact HB.out | apply below_alloc | apply pw_below_drewN | apply below_drew1) | exact HB.out)) hb); clear HO108; clear HO113; clear HB; have HO108 := n0_; have HO113 := n1_; have HO118 := n2_; have HB := n3_; clear n0_ n1_ n2_ n3_; clear hb ho48; obtain ⟨Ao49, co49, eo49⟩ := Kd.R_slice HO118.out; subst eo49) | ((with_reducible refine gate_callee (f := 13) rfl ?_); refine goesL_ (some 37) rfl rfl Try.func13 (by kernel_rfl) rfl #[.slice Ao49 y116.length co49] rfl (by (try simp only [List.map_toArray, List.map_cons, List.map_nil]); first | done | rfl | (simp only [List.length_drop, List.length_take]; rfl)) ?_; (with_reducible refine (know_Known.calls _ _ y116 t119 t120 _ ?side1 ?side2 A7.out).mono ?_); (case side1 => repeat (first | exact (Kd.R_reads' HO118.out).2.2 | (with_reducible refine Kd.C_alloc ?_ _) | (with_reducible refine Kd.C_drewN ?_ _) | (with_reducible refine Kd.C_drew ?_))); (case side2 => exact (Kd.R_reads' HO118.out).2.1); rintro e w50 ⟨v121, rfl, ho0, hb⟩; refine ⟨_, rfl, ?_⟩; have n0_ := Aside0.mk (Kd.R_elder' (by (with_reducible repeat (first | apply Kd.R_alloc | apply Kd.R_drewN | apply Kd.R_drew)); exact HO108.out) (Kd.R_base ho0) hb); have n1_ := Aside0.mk (Kd.R_elder' (by (with_reducible repeat (first | apply Kd.R_alloc | apply Kd.R_drewN | apply Kd.R_drew)); exact HO113.out) (Kd.R_base ho0) hb); have n2_ := Aside0.mk (Kd.R_elder' (by (with_reducible repeat (first | apply Kd.R_alloc | apply Kd.R_drewN | apply Kd.R_drew)); exact HO118.out) (Kd.R_base ho0) hb); have n3_ := Aside0.mk (Kd.R_lower (Kd.R_new' (Kd.R_new' (Kd.R_new' ho0 (Kd.R_lt (by (with_reducible repeat (first | apply Kd.R_alloc | apply Kd.R_drewN | apply Kd.R_drew)); exact HO108.out))) (Kd.R_lt (by (with_reducible repeat (first | apply Kd.R_alloc | apply Kd.R_drewN | apply Kd.R_drew)); exact HO113.out))) (Kd.R_lt (by (with_reducible repeat (first | apply Kd.R_alloc | apply Kd.R_drewN | apply Kd.R_drew)); exact HO118.out))) (below_size (by repeat (first | (with_reducible first | exact HB.out | apply below_alloc | apply pw_below_drewN | apply below_drew1) | exact HB.out)))); have n4_ := Aside0.mk (below_step (by repeat (first | (with_reducible first | exact HB.out | apply below_alloc | apply pw_below_drewN | apply below_drew1) | exact HB.out)) hb); clear HO108; clear HO113; clear HO118; clear HB; have HO108 := n0_; have HO113 := n1_; have HO118 := n2_; have HO122 := n3_; have HB := n4_; clear n0_ n1_ n2_ n3_ n4_; (try clear hb); (try clear hb2); (try clear hk); (try clear hi); (try clear ho0)) | ((with_reducible refine gate_dst (N := 45) rfl ?_); (try (refine gate_guard (by rfl) ?_; dsimp only)); refine Kd.R_lit Kd.string _ 23 ?hg (N := 45) ?hd (xs := ([((⟨#[112]⟩ : ByteArray) ++ t104) ++ t105] : List ByteArray)) (inner := [.string (((⟨#[112]⟩ : ByteArray) ++ t104) ++ t105)]) (ok := fun _ => True) (okp := fun _ => True) ?hr ?hp (fun _ hk => hk) trivial (Below.refl _ _) (Nat.le_refl _) (by simp) ?_; (case hd => rfl); (case hg => rfl); (case hr => first | (go_simp; done) | (go_simp; rfl)); (case hp => exact (Reps.one (show Kd.M Kd.string _ _ _ (((⟨#[112]⟩ : ByteArray) ++ t104) ++ t105) [.string (((⟨#[112]⟩ : ByteArray) ++ t104) ++ t105)] from rfl) (Reps.none _ _))); intro v124 w51 ho52 hb hg_ hnew_; clear hg_ hnew_; (first | rw [← Ny123.out] at ho52 | (simp only [Int.reduceToNat] at ho52; rw [← Ny123.out] at ho52)); have n0_ := Aside0.mk (Kd.R_elder' (by (with_reducible repeat (first | apply Kd.R_alloc | apply Kd.R_drewN | apply Kd.R_drew)); exact HO108.out) (Kd.R_base ho52) hb); have n1_ := Aside0.mk (Kd.R_elder' (by (with_reducible repeat (first | apply Kd.R_alloc | apply Kd.R_drewN | apply Kd.R_drew)); exact HO113.out) (Kd.R_base ho52) hb); have n2_ := Aside0.mk (Kd.R_elder' (by (with_reducible repeat (first | apply Kd.R_alloc | apply Kd.R_drewN | apply Kd.R_drew)); exact HO118.out) (Kd.R_base ho52) hb); have n3_ := Aside0.mk (Kd.R_elder' (by (with_reducible repeat (first | apply Kd.R_alloc | apply Kd.R_drewN | apply Kd.R_drew)); exact HO122.out) (Kd.R_base ho52) hb); have n4_ := Aside0.mk (Kd.R_lower (Kd.R_new' (Kd.R_new' (Kd.R_new' (Kd.R_new' ho52 (Kd.R_lt (by (with_reducible repeat (first | apply Kd.R_alloc | apply Kd.R_drewN | apply Kd.R_drew)); exact HO108.out))) (Kd.R_lt (by (with_reducible repeat (first | apply Kd.R_alloc | apply Kd.R_drewN | apply Kd.R_drew)); exact HO113.out))) (Kd.R_lt (by (with_reducible repeat (first | apply Kd.R_alloc | apply Kd.R_drewN | apply Kd.R_drew)); exact HO118.out))) (Kd.R_lt (by (with_reducible repeat (first | apply Kd.R_alloc | apply Kd.R_drewN | apply Kd.R_drew)); exact HO122.out))) (below_size (by repeat (first | (with_reducible first | exact HB.out | apply below_alloc | apply pw_below_drewN | apply below_drew1) | exact HB.out)))); have n5_ := Aside0.mk (below_step (by repeat (first | (with_reducible first | exact HB.out | apply below_alloc | apply pw_below_drewN | apply below_drew1) | exact HB.out)) hb); clear HO108; clear HO113; clear HO118; clear HO122; clear HB; have HO108 := n0_; have HO113 := n1_; have HO118 := n2_; have HO122 := n3_; have HO125 := n4_; have HB := n5_; clear n0_ n1_ n2_ n3_ n4_ n5_; clear hb ho52; obtain ⟨Ao53, co53, eo53⟩ := Kd.R_slice HO125.out; subst eo53) | ((with_reducible refine gate_callee (f := 15) rfl ?_); refine goesL_ (some 48) rfl rfl Try.func15 (by kernel_rfl) rfl #[.slice Ao53 y123.length co53, .string ((⟨#[104]⟩ : ByteArray) ++ t105)] rfl (by (try simp only [List.map_toArray, List.map_cons, List.map_nil]); first | done | rfl | (simp only [List.length_drop, List.length_take]; rfl)) ?_; (with_reducible refine (know_Derives.calls _ _ y123 ((⟨#[104]⟩ : ByteArray) ++ t105) true t127 _ ?side1 ?side2 A10.out).mono ?_); (case side1 => repeat (first | exact (Kd.R_reads' HO125.out).2.2 | (with_reducible refine Kd.C_alloc ?_ _) | (with_reducible refine Kd.C_drewN ?_ _) | (with_reducible refine Kd.C_drew ?_))); (case side2 => exact (Kd.R_reads' HO125.out).2.1); rintro e w54 ⟨rfl, hb⟩; refine ⟨_, rfl, ?_⟩; have n0_ := Aside0.mk (Kd.R_below (by (with_reducible repeat (first | apply Kd.R_alloc | apply Kd.R_drewN | apply Kd.R_drew)); exact HO108.out) hb); have n1_ := Aside0.mk (Kd.R_below (by (with_reducible repeat (first | apply Kd.R_alloc | apply Kd.R_drewN | apply Kd.R_drew)); exact HO113.out) hb); have n2_ := Aside0.mk (Kd.R_below (by (with_reducible repeat (first | apply Kd.R_alloc | apply Kd.R_drewN | apply Kd.R_drew)); exact HO118.out) hb); have n3_ := Aside0.mk (Kd.R_below (by (with_reducible repeat (first | apply Kd.R_alloc | apply Kd.R_drewN | apply Kd.R_drew)); exact HO122.out) hb); have n4_ := Aside0.mk (Kd.R_below (by (with_reducible repeat (first | apply Kd.R_alloc | apply Kd.R_drewN | apply Kd.R_drew)); exact HO125.out) hb); have n5_ := Aside0.mk (below_step (by repeat (first | (with_reducible first | exact HB.out | apply below_alloc | apply pw_below_drewN | apply below_drew1) | exact HB.out)) hb); clear HO108; clear HO113; clear HO118; clear HO122; clear HO125; clear HB; have HO108 := n0_; have HO113 := n1_; have HO118 := n2_; have HO122 := n3_; have HO125 := n4_; have HB := n5_; clear n0_ n1_ n2_ n3_ n4_ n5_; (try clear hb); (try clear hb2); (try clear hk); (try clear hi); obtain ⟨Ao55, co55, eo55⟩ := Kd.R_slice HO122.out; subst eo55))
                          go_ret
                          exact ⟨by first | rfl | (simp [errW_none, errW_some] <;> rfl) | (simp [*, errW_none, errW_some] <;> rfl), by repeat (first | (with_reducible first | exact HB.out | apply below_alloc | apply pw_below_drewN | apply below_drew1) | exact HB.out)⟩
                        · exact absurd ((Option.some.inj (show (some false : Option Bool) = some r by rw [if_neg c36] at H; exact H)).trans HTRUE) (by decide)
                      · rw [if_neg c35] at H
                        exact absurd ((Option.some.inj H).trans HTRUE) (by decide)
                    · rw [if_neg c34] at H
                      exact absurd ((Option.some.inj H).trans HTRUE) (by decide)
                  · rw [if_neg c33] at H
                    exact absurd ((Option.some.inj H).trans HTRUE) (by decide)
              · rw [if_neg c13] at H
                exact absurd ((Option.some.inj H).trans HTRUE) (by decide)
            · exact absurd ((Option.some.inj (show (some false : Option Bool) = some r by rw [if_neg c12] at H; exact H)).trans HTRUE) (by decide)
          · rw [if_neg c11] at H
            exact absurd ((Option.some.inj H).trans HTRUE) (by decide)
        · rw [if_neg c9] at H
          exact absurd H (by simp)
      · rw [if_neg c8] at H
        exact absurd H (by simp)
    · rw [if_neg c4] at H
      exact absurd H (by simp)
  · rw [if_neg c3] at H
    exact absurd H (by simp)

/-! ### chantrylaw04_Few: function 12 -/
def chantrylaw04_Few.l0 : Nat → List ByteArray → Int → List ByteArray → Int → Int → Option (Bool)
  | 0, _, _, _, _, _ => none
  | k + 1, x0, x3, x6, x7, x8 => if x8 < x7 then (if 0 ≤ x8 then (if x8 < (x6.length : Int) then (chantrylaw04_Few.l0 k x0 (wrap64 (x3 + ((rdOf ByteArray.empty x6 x8).size : Int))) x6 x7 (wrap64 (x8 + 1))) else (none)) else (none)) else (if (x0.length : Int) ≤ 20 then (some (decide (x3 ≤ 400))) else (some false))
def chantrylaw04_Few.f (k : Nat) (l0 : List ByteArray) : Option (Bool) := chantrylaw04_Few.l0 k l0 0 l0 (l0.length : Int) 0
theorem chantrylaw04_Few.mono_l : ∀ k, (∀ y0 y1 y2 y3 y4, LeO (chantrylaw04_Few.l0 k y0 y1 y2 y3 y4) (chantrylaw04_Few.l0 (k + 1) y0 y1 y2 y3 y4))
  | 0 => fun _ _ _ _ _ r h => by simp [chantrylaw04_Few.l0] at h
  | k + 1 => by
    have ih0 := chantrylaw04_Few.mono_l k
    · intro y0 y1 y2 y3 y4
      unfold chantrylaw04_Few.l0
      repeat' first
      | (with_reducible exact ih0 _ _ _ _ _)
      | (with_reducible exact LeO.refl _)
      | (with_reducible exact LeO.none _)
      | (with_reducible refine LeO.ite ?_ ?_)
      | (with_reducible refine LeO.bind ?_ (fun _ => ?_))
      | exact ih0 _ _ _ _ _
      | exact LeO.none _
      | refine LeO.ite ?_ ?_
      | refine LeO.bind ?_ (fun _ => ?_)
theorem chantrylaw04_Few.mono : ∀ a0 k, LeO (chantrylaw04_Few.f k a0) (chantrylaw04_Few.f (k + 1) a0) := by
  intro a0 k
  have ih0 := chantrylaw04_Few.mono_l k
  unfold chantrylaw04_Few.f
  repeat' first
      | (with_reducible exact ih0 _ _ _ _ _)
      | (with_reducible exact LeO.refl _)
      | (with_reducible exact LeO.none _)
      | (with_reducible refine LeO.ite ?_ ?_)
      | (with_reducible refine LeO.bind ?_ (fun _ => ?_))
      | exact ih0 _ _ _ _ _
      | exact LeO.none _
      | refine LeO.ite ?_ ?_
      | refine LeO.bind ?_ (fun _ => ?_)
set_option maxHeartbeats 8000000 in
set_option maxRecDepth 100000 in
theorem chantrylaw04_Few.calls (k : Nat) (A0 : Option Addr) (c0 : Nat) (l0 : List ByteArray) (r : Bool) (w : World) (hr0 : Kd.C Kd.string w A0 l0.length l0) (hc0 : l0.length ≤ c0) (h : chantrylaw04_Few.f k l0 = some r) :
    Calls Try.prog 12 #[.slice A0 l0.length c0] w fun e w' => e = .returned (.bool r) ∧ Drawn0 w w' := by
  have HR0 := Aside0.mk hr0
  have HC0 := Aside0.mk hc0
  clear hr0 hc0
  have H : (chantrylaw04_Few.l0 k l0 0 l0 (l0.length : Int) 0) = some r := h
  clear h
  have H' := Aside0.mk H
  clear H
  go_enter Try.func12, Try.ntmps12
  go_wp2
  go_loopg [3, 8] k (fun kq v3 v8 w' => ∃ (x3_1 : Int) (x8_1 : Int), v3 = .int .i64 x3_1 ∧ v8 = .int .i64 x8_1 ∧ Aside0 (chantrylaw04_Few.l0 kq l0 x3_1 l0 (l0.length : Int) x8_1 = some r) ∧ Aside0 (kq ≤ k) ∧ Drawn0 w w')
  case atStart => exact ⟨(0), (0), (by first | rfl | (simp; done) | (simp [*]; done)), (by first | rfl | (simp; done) | (simp [*]; done)), H', ⟨Nat.le_refl _⟩, by repeat (first | exact Drawn0.refl _ | apply Drawn0.step)⟩
  case round =>
    clear H'
    try clear c1
    obtain ⟨x3_1, x8_1, rfl, rfl, HA, HK1, ⟨m1, rfl⟩⟩ := hrel
    cases gk with
    | zero => exact absurd HA.out (by simp [chantrylaw04_Few.l0])
    | succ k1 =>
      have H := HA.out
      clear HA
      simp only [chantrylaw04_Few.l0] at H
      by_cases c2 : x8_1 < (l0.length : Int)
      · rw [if_pos c2] at H
        have c2b0 : decide (x8_1 < (l0.length : Int)) = true := decide_eq_true c2
        clear c2
        by_cases c3 : 0 ≤ x8_1
        · rw [if_pos c3] at H
          have c3b0 : decide (0 ≤ x8_1) = true := decide_eq_true c3
          clear c3
          by_cases c4 : x8_1 < (l0.length : Int)
          · rw [if_pos c4] at H
            have c4b0 : decide (x8_1 < (l0.length : Int)) = true := decide_eq_true c4
            clear c4
            have H' := Aside0.mk H
            clear H
            have p128 : 0 ≤ (x8_1 : Int) := of_decide_eq_true (by first | (with_reducible assumption) | assumption)
            have q128 : x8_1 < (l0.length : Int) := of_decide_eq_true (by first | (with_reducible assumption) | assumption)
            obtain ⟨ad128, e128, hx128_0⟩ := Kd.at_string HR0.out x8_1 p128 q128
            cases e128
            replace p128 := eq_true p128
            replace q128 := eq_true q128
            go_wp2
            go_roundg k1
            case measure => have := HK1.out; omega
            case rel => exact ⟨(wrap64 (x3_1 + ((rdOf ByteArray.empty l0 x8_1).size : Int))), (wrap64 (x8_1 + 1)), (by first | rfl | (simp; done) | (simp [*]; done)), (by first | rfl | (simp; done) | (simp [*]; done)), H', ⟨by have := HK1.out; omega⟩, by repeat (first | exact Drawn0.refl _ | apply Drawn0.step)⟩
          · rw [if_neg c4] at H
            exact absurd H (by simp)
        · rw [if_neg c3] at H
          exact absurd H (by simp)
      · rw [if_neg c2] at H
        have c2b0 : decide (x8_1 < (l0.length : Int)) = false := decide_eq_false c2
        clear c2
        by_cases c5 : (l0.length : Int) ≤ 20
        · rw [if_pos c5] at H
          have c5b0 : decide ((l0.length : Int) ≤ 20) = true := decide_eq_true c5
          have c5b1 : decide (l0.length ≤ 20) = true := decide_eq_true (by omega)
          clear c5
          obtain rfl := Option.some.inj H
          go_wp2
          go_ret
          exact ⟨by first | rfl | (simp; done) | (simp [*]; done), by repeat (first | exact Drawn0.refl _ | apply Drawn0.step)⟩
        · rw [if_neg c5] at H
          have c5b0 : decide ((l0.length : Int) ≤ 20) = false := decide_eq_false c5
          have c5b1 : decide (l0.length ≤ 20) = false := decide_eq_false (by omega)
          clear c5
          obtain rfl := Option.some.inj H
          go_wp2
          go_ret
          exact ⟨by first | rfl | (simp; done) | (simp [*]; done), by repeat (first | exact Drawn0.refl _ | apply Drawn0.step)⟩
end Go.Proofs.Ytinkkiglkjihmaa.Pr

