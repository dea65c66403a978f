-- Written by a program of this repo (wip/printx.py) out of the translation; Lean checks it.
import Derived.Lib.SlBytesConst
import Derived.Test.YtimfhdpgkoonaaaPrx0
import Derived.Test.YtimfhdpgkoonaaaPrx1
import Derived.Test.YtimfhdpgkoonaaaPrx2
import Derived.Test.YtimfhdpgkoonaaaPrx3
import Derived.Test.YtimfhdpgkoonaaaPrx4
namespace Go.Proofs.Ytimfhdpgkoonaaa.Pr
open Go.RowKit Go.Proofs.YtimfhdpgkoonaaaW.PrintWords Go.Proofs.YtimfhdpgkoonaaaW.PrintLast Go.Proofs.YtimfhdpgkoonaaaW.PrintMore
attribute [local go_sem] max2_int min2_int max_two min_two max_three min_three max_four min_four   -- for this text's walks alone
set_option linter.unusedVariables false
set_option linter.unusedSimpArgs false

attribute [local go_sem high] eqA41
section
variable {P : Program} {ops : Array Oper} {rest : List Oper} {o : Oper} {a : Act} {Q : Exit → Act → World → Prop}
/-- A literal row of bytes that gets the run-time's mark: it is read on. -/
theorem mark_event {W : World} (hgd : o.guard = none) {N : Tmp} (_hd : o.dst = some N) {C : Array Value} {e : TypeId} {n : Nat} (y xs : List Int) (hy : y = xs) (hC : C.toList = xs.map (Value.int .u8)) (hn : xs.length = n) (hn2 : n ≤ 1000)
    (hrun : (execOp a.eval o).run P (W.alloc (.cells C e (0, 0))) = .ok (.value (.slice (some ⟨W.heap.size, 0, none⟩) n n)) (W.alloc (.cells C e (C.size, C.size + 1))))
    (h : ∀ A c w1, y.length ≤ c → Kd.C (Kd.int .u8) w1 A y.length y → Below W.heap.size W w1 → wpList P ops Q rest (a.put o.dst (.slice A y.length c)) w1) : wpList P ops Q (o :: rest) a (W.alloc (.cells C e (0, 0))) := by
  subst hy
  subst hn
  refine Kd.event_run hgd hrun (h _ _ _ (Nat.le_refl _) ?_ (below_alloc (Below.refl _ _) _))
  refine Kd.C_of_reads (d := (0 : Int)) (h1 := fun _ => rfl) ⟨rfl, by omega, fun _ => ⟨_, rfl, fun j hj => ?_⟩⟩
  have hnew : (W.alloc (.cells C e (C.size, C.size + 1))).heap[W.heap.size]? = some (.cells C e (C.size, C.size + 1)) := blk_new W _
  have h1 : (W.alloc (.cells C e (C.size, C.size + 1))).cell? ⟨W.heap.size, 0 + j, none⟩ = C[0 + j]? := cell_of_row _ _ _ _ _ _ hnew
  have h2 : C[j]? = some (.int .u8 (y.getD j 0)) := by
    rw [← Array.getElem?_toList, hC, List.getElem?_map, List.getD_eq_getElem?_getD, List.getElem?_eq_getElem hj]
    rfl
  rw [Nat.zero_add] at h1
  have e : (⟨W.heap.size, 0, none⟩ : Addr).add j = ⟨W.heap.size, j, none⟩ := by rw [add_plain]
  rw [e]
  exact h1.trans h2
end
/-! ### chantrylaw06_alive: function 11 -/
def chantrylaw06_alive.f (k : Nat)  : Option (Bool) := (term_NewNonce.f 1).bind fun t141 => ((link_Key.f t141 3 2).bind fun bt142 => ((link_Send.f bt142.1 0 0 0 2 3 (([104, 105] : List Int))).bind fun bt147 => ((link_Accept.f k bt142.1 0 0 0 3 bt147.2.2.2.2.1 bt147.2.2.2.2.2.1 bt147.2.2.2.2.2.2.1 bt147.2.2.2.2.2.2.2.1 bt147.2.2.2.2.2.2.2.2.1).bind fun bt161 => ((link_Accept.f k bt161.1 bt161.2.1 bt161.2.2.1 bt161.2.2.2.1 3 bt147.2.2.2.2.1 bt147.2.2.2.2.2.1 bt147.2.2.2.2.2.2.1 bt147.2.2.2.2.2.2.2.1 bt147.2.2.2.2.2.2.2.2.1).bind fun bt167 => (if bt142.2 = 0 then (if bt142.1.toList = ([100, 110, 0, 1, 99, 2, 2, 3] : List UInt8) then (if bt147.2.2.2.2.2.2.2.2.2 = 0 then (if bt147.2.1 = 1 then (if bt147.2.2.2.2.2.2.1 = 1 then (if 1 + bt142.1.size ≤ 9223372036854775807 then (if ((⟨#[109]⟩ : ByteArray) ++ bt142.1).size + 10 ≤ 9223372036854775807 then (if bt147.2.2.2.2.2.2.2.2.1.toList = (((⟨#[109]⟩ : ByteArray) ++ bt142.1) ++ (⟨#[99, 8, 2, 3, 0, 0, 0, 1, 104, 105]⟩ : ByteArray)).toList then (if bt161.2.2.2.2 = 0 then (if bt161.2.2.1 = 1 then (if bt161.2.2.2.1 = 1 then (if bt167.2.2.2.2 = 6 then (some (bt167.1.toList == bt161.1.toList && (bt167.2.1 == bt161.2.1 && (bt167.2.2.1 == bt161.2.2.1 && (bt167.2.2.2.1 == bt161.2.2.2.1))))) else (some false)) else (some false)) else (some false)) else (some false)) else (some false)) else (none)) else (none)) else (some false)) else (some false)) else (some false)) else (some false)) else (some false))))))
theorem chantrylaw06_alive.mono : ∀ k, LeO (chantrylaw06_alive.f k ) (chantrylaw06_alive.f (k + 1) ) := by
  intro  k
  unfold chantrylaw06_alive.f
  repeat' first
      | (with_reducible exact link_Accept.mono _ _ _ _ _ _ _ _ _ _ _)
      | (with_reducible exact LeO.refl _)
      | (with_reducible exact LeO.none _)
      | (with_reducible refine LeO.ite ?_ ?_)
      | (with_reducible refine LeO.bind ?_ (fun _ => ?_))
      | exact link_Accept.mono _ _ _ _ _ _ _ _ _ _ _
      | exact LeO.none _
      | refine LeO.ite ?_ ?_
      | refine LeO.bind ?_ (fun _ => ?_)
set_option maxHeartbeats 8000000 in
set_option maxRecDepth 100000 in
theorem chantrylaw06_alive.calls (k : Nat)  (r : Bool) (w : World) (h : chantrylaw06_alive.f k  = some r) (HTRUE : r = true := by rfl) :
    Calls Try.prog 11 #[] w fun e w' => e = .returned (.bool r) ∧ Below w.heap.size w w' := by
  have hu41 := Try.underlying41
  have hu35 := Try.underlying35
  have HB := Aside0.mk (Below.refl w.heap.size w)
  have H : ((term_NewNonce.f 1).bind fun t141 => ((link_Key.f t141 3 2).bind fun bt142 => ((link_Send.f bt142.1 0 0 0 2 3 (([104, 105] : List Int))).bind fun bt147 => ((link_Accept.f k bt142.1 0 0 0 3 bt147.2.2.2.2.1 bt147.2.2.2.2.2.1 bt147.2.2.2.2.2.2.1 bt147.2.2.2.2.2.2.2.1 bt147.2.2.2.2.2.2.2.2.1).bind fun bt161 => ((link_Accept.f k bt161.1 bt161.2.1 bt161.2.2.1 bt161.2.2.2.1 3 bt147.2.2.2.2.1 bt147.2.2.2.2.2.1 bt147.2.2.2.2.2.2.1 bt147.2.2.2.2.2.2.2.1 bt147.2.2.2.2.2.2.2.2.1).bind fun bt167 => (if bt142.2 = 0 then (if bt142.1.toList = ([100, 110, 0, 1, 99, 2, 2, 3] : List UInt8) then (if bt147.2.2.2.2.2.2.2.2.2 = 0 then (if bt147.2.1 = 1 then (if bt147.2.2.2.2.2.2.1 = 1 then (if 1 + bt142.1.size ≤ 9223372036854775807 then (if ((⟨#[109]⟩ : ByteArray) ++ bt142.1).size + 10 ≤ 9223372036854775807 then (if bt147.2.2.2.2.2.2.2.2.1.toList = (((⟨#[109]⟩ : ByteArray) ++ bt142.1) ++ (⟨#[99, 8, 2, 3, 0, 0, 0, 1, 104, 105]⟩ : ByteArray)).toList then (if bt161.2.2.2.2 = 0 then (if bt161.2.2.1 = 1 then (if bt161.2.2.2.1 = 1 then (if bt167.2.2.2.2 = 6 then (some (bt167.1.toList == bt161.1.toList && (bt167.2.1 == bt161.2.1 && (bt167.2.2.1 == bt161.2.2.1 && (bt167.2.2.2.1 == bt161.2.2.2.1))))) else (some false)) else (some false)) else (some false)) else (some false)) else (some false)) else (none)) else (none)) else (some false)) else (some false)) else (some false)) else (some false)) else (some false))))))) = some r := h
  clear h
  replace H := Option.bind_eq_some_iff.mp H
  obtain ⟨t141, A10, H⟩ := H
  replace H : ((link_Key.f t141 3 2).bind fun bt142 => ((link_Send.f bt142.1 0 0 0 2 3 (([104, 105] : List Int))).bind fun bt147 => ((link_Accept.f k bt142.1 0 0 0 3 bt147.2.2.2.2.1 bt147.2.2.2.2.2.1 bt147.2.2.2.2.2.2.1 bt147.2.2.2.2.2.2.2.1 bt147.2.2.2.2.2.2.2.2.1).bind fun bt161 => ((link_Accept.f k bt161.1 bt161.2.1 bt161.2.2.1 bt161.2.2.2.1 3 bt147.2.2.2.2.1 bt147.2.2.2.2.2.1 bt147.2.2.2.2.2.2.1 bt147.2.2.2.2.2.2.2.1 bt147.2.2.2.2.2.2.2.2.1).bind fun bt167 => (if bt142.2 = 0 then (if bt142.1.toList = ([100, 110, 0, 1, 99, 2, 2, 3] : List UInt8) then (if bt147.2.2.2.2.2.2.2.2.2 = 0 then (if bt147.2.1 = 1 then (if bt147.2.2.2.2.2.2.1 = 1 then (if 1 + bt142.1.size ≤ 9223372036854775807 then (if ((⟨#[109]⟩ : ByteArray) ++ bt142.1).size + 10 ≤ 9223372036854775807 then (if bt147.2.2.2.2.2.2.2.2.1.toList = (((⟨#[109]⟩ : ByteArray) ++ bt142.1) ++ (⟨#[99, 8, 2, 3, 0, 0, 0, 1, 104, 105]⟩ : ByteArray)).toList then (if bt161.2.2.2.2 = 0 then (if bt161.2.2.1 = 1 then (if bt161.2.2.2.1 = 1 then (if bt167.2.2.2.2 = 6 then (some (bt167.1.toList == bt161.1.toList && (bt167.2.1 == bt161.2.1 && (bt167.2.2.1 == bt161.2.2.1 && (bt167.2.2.2.1 == bt161.2.2.2.1))))) else (some false)) else (some false)) else (some false)) else (some false)) else (some false)) else (none)) else (none)) else (some false)) else (some false)) else (some false)) else (some false)) else (some false)))))) = some r := H
  have A1 := Aside0.mk A10
  clear A10
  replace H := Option.bind_eq_some_iff.mp H
  obtain ⟨⟨t142, t143⟩, A20, H⟩ := H
  replace H : ((link_Send.f t142 0 0 0 2 3 (([104, 105] : List Int))).bind fun bt147 => ((link_Accept.f k t142 0 0 0 3 bt147.2.2.2.2.1 bt147.2.2.2.2.2.1 bt147.2.2.2.2.2.2.1 bt147.2.2.2.2.2.2.2.1 bt147.2.2.2.2.2.2.2.2.1).bind fun bt161 => ((link_Accept.f k bt161.1 bt161.2.1 bt161.2.2.1 bt161.2.2.2.1 3 bt147.2.2.2.2.1 bt147.2.2.2.2.2.1 bt147.2.2.2.2.2.2.1 bt147.2.2.2.2.2.2.2.1 bt147.2.2.2.2.2.2.2.2.1).bind fun bt167 => (if t143 = 0 then (if t142.toList = ([100, 110, 0, 1, 99, 2, 2, 3] : List UInt8) then (if bt147.2.2.2.2.2.2.2.2.2 = 0 then (if bt147.2.1 = 1 then (if bt147.2.2.2.2.2.2.1 = 1 then (if 1 + t142.size ≤ 9223372036854775807 then (if ((⟨#[109]⟩ : ByteArray) ++ t142).size + 10 ≤ 9223372036854775807 then (if bt147.2.2.2.2.2.2.2.2.1.toList = (((⟨#[109]⟩ : ByteArray) ++ t142) ++ (⟨#[99, 8, 2, 3, 0, 0, 0, 1, 104, 105]⟩ : ByteArray)).toList then (if bt161.2.2.2.2 = 0 then (if bt161.2.2.1 = 1 then (if bt161.2.2.2.1 = 1 then (if bt167.2.2.2.2 = 6 then (some (bt167.1.toList == bt161.1.toList && (bt167.2.1 == bt161.2.1 && (bt167.2.2.1 == bt161.2.2.1 && (bt167.2.2.2.1 == bt161.2.2.2.1))))) else (some false)) else (some false)) else (some false)) else (some false)) else (some false)) else (none)) else (none)) else (some false)) else (some false)) else (some false)) else (some false)) else (some false))))) = some r := H
  have A2 := Aside0.mk A20
  clear A20
  obtain ⟨y144, hy144⟩ : ∃ y_ : List Int, y_ = (([104, 105] : List Int)) := ⟨_, rfl⟩
  replace H : ((link_Send.f t142 0 0 0 2 3 y144).bind fun bt147 => ((link_Accept.f k t142 0 0 0 3 bt147.2.2.2.2.1 bt147.2.2.2.2.2.1 bt147.2.2.2.2.2.2.1 bt147.2.2.2.2.2.2.2.1 bt147.2.2.2.2.2.2.2.2.1).bind fun bt161 => ((link_Accept.f k bt161.1 bt161.2.1 bt161.2.2.1 bt161.2.2.2.1 3 bt147.2.2.2.2.1 bt147.2.2.2.2.2.1 bt147.2.2.2.2.2.2.1 bt147.2.2.2.2.2.2.2.1 bt147.2.2.2.2.2.2.2.2.1).bind fun bt167 => (if t143 = 0 then (if t142.toList = ([100, 110, 0, 1, 99, 2, 2, 3] : List UInt8) then (if bt147.2.2.2.2.2.2.2.2.2 = 0 then (if bt147.2.1 = 1 then (if bt147.2.2.2.2.2.2.1 = 1 then (if 1 + t142.size ≤ 9223372036854775807 then (if ((⟨#[109]⟩ : ByteArray) ++ t142).size + 10 ≤ 9223372036854775807 then (if bt147.2.2.2.2.2.2.2.2.1.toList = (((⟨#[109]⟩ : ByteArray) ++ t142) ++ (⟨#[99, 8, 2, 3, 0, 0, 0, 1, 104, 105]⟩ : ByteArray)).toList then (if bt161.2.2.2.2 = 0 then (if bt161.2.2.1 = 1 then (if bt161.2.2.2.1 = 1 then (if bt167.2.2.2.2 = 6 then (some (bt167.1.toList == bt161.1.toList && (bt167.2.1 == bt161.2.1 && (bt167.2.2.1 == bt161.2.2.1 && (bt167.2.2.2.1 == bt161.2.2.2.1))))) else (some false)) else (some false)) else (some false)) else (some false)) else (some false)) else (none)) else (none)) else (some false)) else (some false)) else (some false)) else (some false)) else (some false))))) = some r := by first | (rw [hy144]; with_reducible exact H) | (have H2_ := (Option.bind_some _ _).symm.trans H; rw [hy144]; with_reducible exact H2_) | (have H2_ := (Option.bind_some _ _).symm.trans H; with_reducible exact H2_) | with_reducible exact H | (rw [hy144]; exact H) | exact H
  have Ny144 := Aside0.mk hy144
  clear hy144
  replace H := Option.bind_eq_some_iff.mp H
  obtain ⟨⟨t147, t148, t149, t150, t151, t152, t153, t154, t157, t158⟩, A30, H⟩ := H
  replace H : ((link_Accept.f k t142 0 0 0 3 t151 t152 t153 t154 t157).bind fun bt161 => ((link_Accept.f k bt161.1 bt161.2.1 bt161.2.2.1 bt161.2.2.2.1 3 t151 t152 t153 t154 t157).bind fun bt167 => (if t143 = 0 then (if t142.toList = ([100, 110, 0, 1, 99, 2, 2, 3] : List UInt8) then (if t158 = 0 then (if t148 = 1 then (if t153 = 1 then (if 1 + t142.size ≤ 9223372036854775807 then (if ((⟨#[109]⟩ : ByteArray) ++ t142).size + 10 ≤ 9223372036854775807 then (if t157.toList = (((⟨#[109]⟩ : ByteArray) ++ t142) ++ (⟨#[99, 8, 2, 3, 0, 0, 0, 1, 104, 105]⟩ : ByteArray)).toList then (if bt161.2.2.2.2 = 0 then (if bt161.2.2.1 = 1 then (if bt161.2.2.2.1 = 1 then (if bt167.2.2.2.2 = 6 then (some (bt167.1.toList == bt161.1.toList && (bt167.2.1 == bt161.2.1 && (bt167.2.2.1 == bt161.2.2.1 && (bt167.2.2.2.1 == bt161.2.2.2.1))))) else (some false)) else (some false)) else (some false)) else (some false)) else (some false)) else (none)) else (none)) else (some false)) else (some false)) else (some false)) else (some false)) else (some false)))) = some r := H
  have A3 := Aside0.mk A30
  clear A30
  replace H := Option.bind_eq_some_iff.mp H
  obtain ⟨⟨t161, t162, t163, t164, t165⟩, A40, H⟩ := H
  replace H : ((link_Accept.f k t161 t162 t163 t164 3 t151 t152 t153 t154 t157).bind fun bt167 => (if t143 = 0 then (if t142.toList = ([100, 110, 0, 1, 99, 2, 2, 3] : List UInt8) then (if t158 = 0 then (if t148 = 1 then (if t153 = 1 then (if 1 + t142.size ≤ 9223372036854775807 then (if ((⟨#[109]⟩ : ByteArray) ++ t142).size + 10 ≤ 9223372036854775807 then (if t157.toList = (((⟨#[109]⟩ : ByteArray) ++ t142) ++ (⟨#[99, 8, 2, 3, 0, 0, 0, 1, 104, 105]⟩ : ByteArray)).toList then (if t165 = 0 then (if t163 = 1 then (if t164 = 1 then (if bt167.2.2.2.2 = 6 then (some (bt167.1.toList == t161.toList && (bt167.2.1 == t162 && (bt167.2.2.1 == t163 && (bt167.2.2.2.1 == t164))))) else (some false)) else (some false)) else (some false)) else (some false)) else (some false)) else (none)) else (none)) else (some false)) else (some false)) else (some false)) else (some false)) else (some false))) = some r := H
  have A4 := Aside0.mk A40
  clear A40
  replace H := Option.bind_eq_some_iff.mp H
  obtain ⟨⟨t167, t168, t169, t170, t171⟩, A50, H⟩ := H
  replace H : (if t143 = 0 then (if t142.toList = ([100, 110, 0, 1, 99, 2, 2, 3] : List UInt8) then (if t158 = 0 then (if t148 = 1 then (if t153 = 1 then (if 1 + t142.size ≤ 9223372036854775807 then (if ((⟨#[109]⟩ : ByteArray) ++ t142).size + 10 ≤ 9223372036854775807 then (if t157.toList = (((⟨#[109]⟩ : ByteArray) ++ t142) ++ (⟨#[99, 8, 2, 3, 0, 0, 0, 1, 104, 105]⟩ : ByteArray)).toList then (if t165 = 0 then (if t163 = 1 then (if t164 = 1 then (if t171 = 6 then (some (t167.toList == t161.toList && (t168 == t162 && (t169 == t163 && (t170 == t164))))) else (some false)) else (some false)) else (some false)) else (some false)) else (some false)) else (none)) else (none)) else (some false)) else (some false)) else (some false)) else (some false)) else (some false)) = some r := H
  have A5 := Aside0.mk A50
  clear A50
  by_cases c6 : t143 = 0
  · rw [if_pos c6] at H
    have c6b0 : (t143 == 0) = true := beq_iff_eq.mpr c6
    have c6b1 : (t143 != 0) = false := bne_eq_false_iff_eq.mpr c6
    clear c6
    by_cases c7 : t142.toList = ([100, 110, 0, 1, 99, 2, 2, 3] : List UInt8)
    · rw [if_pos c7] at H
      have c7b0 : (t142.toList == ([100, 110, 0, 1, 99, 2, 2, 3] : List UInt8)) = true := beq_iff_eq.mpr c7
      have c7b1 : (t142.toList != ([100, 110, 0, 1, 99, 2, 2, 3] : List UInt8)) = false := bne_eq_false_iff_eq.mpr c7
      clear c7
      by_cases c8 : t158 = 0
      · rw [if_pos c8] at H
        have c8b0 : (t158 == 0) = true := beq_iff_eq.mpr c8
        have c8b1 : (t158 != 0) = false := bne_eq_false_iff_eq.mpr c8
        clear c8
        by_cases c9 : t148 = 1
        · rw [if_pos c9] at H
          have c9b0 : (t148 == 1) = true := beq_iff_eq.mpr c9
          have c9b1 : (t148 != 1) = false := bne_eq_false_iff_eq.mpr c9
          clear c9
          by_cases c10 : t153 = 1
          · rw [if_pos c10] at H
            have c10b0 : (t153 == 1) = true := beq_iff_eq.mpr c10
            have c10b1 : (t153 != 1) = false := bne_eq_false_iff_eq.mpr c10
            clear c10
            by_cases c11 : 1 + t142.size ≤ 9223372036854775807
            · rw [if_pos c11] at H
              have c11b0 := eq_true c11
              have c11b1 : decide (1 + t142.size ≤ 9223372036854775807) = true := decide_eq_true c11
              try have c11b2 : (9223372036854775807 < 1 + t142.size) = False := eq_false (Nat.not_lt.2 c11)
              by_cases c12 : ((⟨#[109]⟩ : ByteArray) ++ t142).size + 10 ≤ 9223372036854775807
              · rw [if_pos c12] at H
                have c12b0 := eq_true c12
                have c12b1 : decide (((⟨#[109]⟩ : ByteArray) ++ t142).size + 10 ≤ 9223372036854775807) = true := decide_eq_true c12
                try have c12b2 : (9223372036854775807 < ((⟨#[109]⟩ : ByteArray) ++ t142).size + 10) = False := eq_false (Nat.not_lt.2 c12)
                have c12b3 : (9223372036854775807 < 1 + t142.size + 10) = False := eq_false (by have q := c12; rw [ByteArray.size_append] at q; have z : (⟨#[109]⟩ : ByteArray).size = 1 := rfl; omega)
                by_cases c13 : t157.toList = (((⟨#[109]⟩ : ByteArray) ++ t142) ++ (⟨#[99, 8, 2, 3, 0, 0, 0, 1, 104, 105]⟩ : ByteArray)).toList
                · rw [if_pos c13] at H
                  have c13b0 : (t157.toList == (((⟨#[109]⟩ : ByteArray) ++ t142) ++ (⟨#[99, 8, 2, 3, 0, 0, 0, 1, 104, 105]⟩ : ByteArray)).toList) = true := beq_iff_eq.mpr c13
                  have c13b1 : (t157.toList != (((⟨#[109]⟩ : ByteArray) ++ t142) ++ (⟨#[99, 8, 2, 3, 0, 0, 0, 1, 104, 105]⟩ : ByteArray)).toList) = false := bne_eq_false_iff_eq.mpr c13
                  clear c13
                  by_cases c14 : t165 = 0
                  · rw [if_pos c14] at H
                    have c14b0 : (t165 == 0) = true := beq_iff_eq.mpr c14
                    have c14b1 : (t165 != 0) = false := bne_eq_false_iff_eq.mpr c14
                    clear c14
                    by_cases c15 : t163 = 1
                    · rw [if_pos c15] at H
                      have c15b0 : (t163 == 1) = true := beq_iff_eq.mpr c15
                      have c15b1 : (t163 != 1) = false := bne_eq_false_iff_eq.mpr c15
                      clear c15
                      by_cases c16 : t164 = 1
                      · rw [if_pos c16] at H
                        have c16b0 : (t164 == 1) = true := beq_iff_eq.mpr c16
                        have c16b1 : (t164 != 1) = false := bne_eq_false_iff_eq.mpr c16
                        clear c16
                        by_cases c17 : t171 = 6
                        · rw [if_pos c17] at H
                          have c17b0 : (t171 == 6) = true := beq_iff_eq.mpr c17
                          have c17b1 : (t171 != 6) = false := bne_eq_false_iff_eq.mpr c17
                          clear c17
                          obtain rfl := Option.some.inj H
                          go_enter Try.func11, Try.ntmps11
                          go_wp2_with (first | ((with_reducible refine gate_callee (f := 22) rfl ?_); refine goesL_ (some 11) rfl rfl Try.func22 (by kernel_rfl) rfl #[.int .u16 1] rfl (by (try simp only [List.map_toArray, List.map_cons, List.map_nil]); first | done | rfl | (simp only [List.length_drop, List.length_take]; rfl)) ?_; (with_reducible refine (term_NewNonce.calls 1 t141 _ A1.out).mono ?_); rintro e w18 ⟨rfl, hb⟩; refine ⟨_, rfl, ?_⟩; have n0_ := Aside0.mk (below_step (by repeat (first | (with_reducible first | exact HB.out | apply below_alloc | apply pw_below_drewN | apply below_drew1) | exact HB.out)) hb); clear HB; have HB := n0_; clear n0_; (try clear hb); (try clear hb2); (try clear hk); (try clear hi)) | ((with_reducible refine gate_callee (f := 13) rfl ?_); refine goesL_ (some 12) rfl rfl Try.func13 (by kernel_rfl) rfl #[.string t141, .int .u8 3, .int .u8 2] rfl (by (try simp only [List.map_toArray, List.map_cons, List.map_nil]); first | done | rfl | (simp only [List.length_drop, List.length_take]; rfl)) ?_; (with_reducible refine (link_Key.calls t141 3 2 t142 t143 _ A2.out).mono ?_); rintro e w19 ⟨rfl, hb⟩; refine ⟨_, rfl, ?_⟩; have n0_ := Aside0.mk (below_step (by repeat (first | (with_reducible first | exact HB.out | apply below_alloc | apply pw_below_drewN | apply below_drew1) | exact HB.out)) hb); clear HB; have HB := n0_; clear n0_; (try clear hb); (try clear hb2); (try clear hk); (try clear hi)) | ((with_reducible refine gate_dst (N := 19) rfl ?_); refine mark_event ?hg (N := 19) ?hd (n := 2) y144 [104, 105] Ny144.out rfl rfl (by decide) ?hr ?_; (case hd => rfl); (case hg => rfl); (case hr => have hk := fun W => Lib.run_convert_bytes_const (P := Try.prog) W 24 5 #[.int .u8 104, .int .u8 105] 2 2 Try.underlying24 Try.underlying5; go_simp; done); intro Ao22 co22 w20 hc22 hC22 hb; have HC22 := Aside0.mk hC22; have HD22 := Aside0.mk hc22; have n1_ := Aside0.mk (below_step (by repeat (first | (with_reducible first | exact HB.out | apply below_alloc | apply pw_below_drewN | apply below_drew1) | exact HB.out)) hb); clear HB; have HB := n1_; clear n1_; clear hb hC22 hc22) | ((with_reducible refine gate_callee (f := 17) rfl ?_); refine goesL_ (some 20) rfl rfl Try.func17 (by kernel_rfl) rfl #[.agg #[.string t142, .int .u32 0, .int .u32 0, .int .u64 0], .int .u8 2, .int .u8 3, .slice Ao22 y144.length co22] rfl (by (try simp only [List.map_toArray, List.map_cons, List.map_nil]); first | done | rfl | (simp only [List.length_drop, List.length_take]; rfl)) ?_; (with_reducible refine (link_Send.calls t142 0 0 0 2 3 _ _ y144 t147 t148 t149 t150 t151 t152 t153 t154 t157 t158 _ ?side1 ?side2 A3.out).mono ?_); (case side1 => repeat (first | exact HC22.out | (with_reducible refine Kd.C_alloc ?_ _) | (with_reducible refine Kd.C_drewN ?_ _) | (with_reducible refine Kd.C_drew ?_))); (case side2 => exact HD22.out); rintro e w23 ⟨v155, rfl, ho0, hb⟩; refine ⟨_, rfl, ?_⟩; clear HC22 HD22; obtain ⟨Ao22, co22, y144, hAA_⟩ : ∃ (A_ : Option Addr) (c_ : Nat) (y_ : List Int), A_ = none ∧ c_ = 0 ∧ y_ = [] := ⟨none, 0, [], rfl, rfl, rfl⟩; have HO146 : Aside0 (Kd.R (Kd.int .u8) 5 w20 w.heap.size (fun _ => True) (.slice Ao22 y144.length co22) y144) := (by obtain ⟨rfl, rfl, rfl⟩ := hAA_; exact Aside0.mk (Kd.R_nil _ _ _ _ _)); clear hAA_; have n0_ := Aside0.mk (Kd.R_elder' (by (with_reducible repeat (first | apply Kd.R_alloc | apply Kd.R_drewN | apply Kd.R_drew)); exact HO146.out) (Kd.R_base ho0) hb); have n1_ := Aside0.mk (Kd.R_lower (Kd.R_new' ho0 (Kd.R_lt (by (with_reducible repeat (first | apply Kd.R_alloc | apply Kd.R_drewN | apply Kd.R_drew)); exact HO146.out))) (below_size (by repeat (first | (with_reducible first | exact HB.out | apply below_alloc | apply pw_below_drewN | apply below_drew1) | exact HB.out)))); have n2_ := Aside0.mk (below_step (by repeat (first | (with_reducible first | exact HB.out | apply below_alloc | apply pw_below_drewN | apply below_drew1) | exact HB.out)) hb); clear HO146; clear HB; have HO146 := n0_; have HO156 := n1_; have HB := n2_; clear n0_ n1_ n2_; (try clear hb); (try clear hb2); (try clear hk); (try clear hi); (try clear ho0)) | ((with_reducible refine gate_dst (N := 3) rfl ?_); refine box_event ?hg (N := 3) ?hd (cs := #[.string (⟨#[]⟩ : ByteArray), .int .u32 0, .int .u32 0, .int .u64 0]) (t := 41) ?hr ?_; (case hd => rfl); (case hg => rfl); (case hr => first | (go_simp; done) | (go_simp; rfl)); intro gb159 hg w24 hbox hb; have n0_ := Aside0.mk (Kd.R_below (by (with_reducible repeat (first | apply Kd.R_alloc | apply Kd.R_drewN | apply Kd.R_drew)); exact HO146.out) hb); have n1_ := Aside0.mk (Kd.R_below (by (with_reducible repeat (first | apply Kd.R_alloc | apply Kd.R_drewN | apply Kd.R_drew)); exact HO156.out) hb); have n2_ := Aside0.mk (below_step (by repeat (first | (with_reducible first | exact HB.out | apply below_alloc | apply pw_below_drewN | apply below_drew1) | exact HB.out)) hb); have n3_ := Aside0.mk (hbox); have n4_ := Aside0.mk ((by rw [hg]; exact (below_size (by repeat (first | (with_reducible first | exact HB.out | apply below_alloc | apply pw_below_drewN | apply below_drew1) | exact HB.out))) : w.heap.size ≤ gb159)); have n5_ := Aside0.mk ((by rw [hg]; exact (below_size (by repeat (first | (with_reducible first | exact HB.out | apply below_alloc | apply pw_below_drewN | apply below_drew1) | exact HB.out))) : w.heap.size ≤ gb159)); clear HO146; clear HO156; clear HB; have HO146 := n0_; have HO156 := n1_; have HB := n2_; have BK159 := n3_; have GW159 := n4_; have GE159 := n5_; clear n0_ n1_ n2_ n3_ n4_ n5_; clear hb hbox hg) | ((with_reducible refine gate_dst (N := 4) rfl ?_); refine box_event ?hg (N := 4) ?hd (cs := #[.int .u8 0, .int .u8 0, .int .u32 0, .slice none 0 0, .string (⟨#[]⟩ : ByteArray)]) (t := 35) ?hr ?_; (case hd => rfl); (case hg => rfl); (case hr => first | (go_simp; done) | (go_simp; rfl)); intro gb160 hg w25 hbox hb; have n0_ := Aside0.mk (Kd.R_below (by (with_reducible repeat (first | apply Kd.R_alloc | apply Kd.R_drewN | apply Kd.R_drew)); exact HO146.out) hb); have n1_ := Aside0.mk (Kd.R_below (by (with_reducible repeat (first | apply Kd.R_alloc | apply Kd.R_drewN | apply Kd.R_drew)); exact HO156.out) hb); have n2_ := Aside0.mk (blk_below (g := gb159) (o := .cells #[.string (⟨#[]⟩ : ByteArray), .int .u32 0, .int .u32 0, .int .u64 0] 41 (0, 0)) (by (with_reducible repeat (first | refine blk_drewN ?_ _ | refine blk_drew ?_ | refine blk_alloc ?_ _)); exact BK159.out) hb); have n3_ := Aside0.mk (below_step (by repeat (first | (with_reducible first | exact HB.out | apply below_alloc | apply pw_below_drewN | apply below_drew1 | refine below_set ?_ GE159.out) | exact HB.out)) hb); have n4_ := Aside0.mk (hbox); have n5_ := Aside0.mk ((by rw [hg]; exact (below_size (by repeat (first | (with_reducible first | exact HB.out | apply below_alloc | apply pw_below_drewN | apply below_drew1 | refine below_set ?_ GE159.out) | exact HB.out))) : w.heap.size ≤ gb160)); have n6_ := Aside0.mk ((by rw [hg]; exact (below_size (by repeat (first | (with_reducible first | exact HB.out | apply below_alloc | apply pw_below_drewN | apply below_drew1 | refine below_set ?_ GE159.out) | exact HB.out))) : w.heap.size ≤ gb160)); have n7_ := Aside0.mk ((by rw [hg]; exact Nat.ne_of_lt (blk_lt (g := gb159) (o := .cells #[.string (⟨#[]⟩ : ByteArray), .int .u32 0, .int .u32 0, .int .u64 0] 41 (0, 0)) (by (with_reducible repeat (first | refine blk_drewN ?_ _ | refine blk_drew ?_ | refine blk_alloc ?_ _)); exact BK159.out)) : gb159 ≠ gb160)); have n8_ := Aside0.mk ((by rw [hg]; exact Nat.ne_of_gt (blk_lt (g := gb159) (o := .cells #[.string (⟨#[]⟩ : ByteArray), .int .u32 0, .int .u32 0, .int .u64 0] 41 (0, 0)) (by (with_reducible repeat (first | refine blk_drewN ?_ _ | refine blk_drew ?_ | refine blk_alloc ?_ _)); exact BK159.out)) : gb160 ≠ gb159)); clear HO146; clear HO156; clear BK159; clear HB; have HO146 := n0_; have HO156 := n1_; have BK159 := n2_; have HB := n3_; have BK160 := n4_; have GW160 := n5_; have GE160 := n6_; have NB159_160 := n7_; have NB160_159 := n8_; clear n0_ n1_ n2_ n3_ n4_ n5_ n6_ n7_ n8_; clear hb hbox hg; have hnb26 := NB159_160.out; have hnc26 := NB160_159.out; have hcz27_0 : w25.cell? ⟨gb159, 0, none⟩ = some (.string (⟨#[]⟩ : ByteArray)) := (blk_cell BK159.out 0).trans rfl; have hcz27_1 : w25.cell? ⟨gb159, 1, none⟩ = some (.int .u32 0) := (blk_cell BK159.out 1).trans rfl; have hcz27_2 : w25.cell? ⟨gb159, 2, none⟩ = some (.int .u32 0) := (blk_cell BK159.out 2).trans rfl; have hcz27_3 : w25.cell? ⟨gb159, 3, none⟩ = some (.int .u64 0) := (blk_cell BK159.out 3).trans rfl; have hfz27_0 := blk_frozen BK159.out 0; have hfz27_1 := blk_frozen BK159.out 1; have hfz27_2 := blk_frozen BK159.out 2; have hfz27_3 := blk_frozen BK159.out 3; have hcz28_0 : w25.cell? ⟨gb160, 0, none⟩ = some (.int .u8 0) := (blk_cell BK160.out 0).trans rfl; have hcz28_1 : w25.cell? ⟨gb160, 1, none⟩ = some (.int .u8 0) := (blk_cell BK160.out 1).trans rfl; have hcz28_2 : w25.cell? ⟨gb160, 2, none⟩ = some (.int .u32 0) := (blk_cell BK160.out 2).trans rfl; have hcz28_3 : w25.cell? ⟨gb160, 3, none⟩ = some (.slice none 0 0) := (blk_cell BK160.out 3).trans rfl; have hcz28_4 : w25.cell? ⟨gb160, 4, none⟩ = some (.string (⟨#[]⟩ : ByteArray)) := (blk_cell BK160.out 4).trans rfl; have hfz28_0 := blk_frozen BK160.out 0; have hfz28_1 := blk_frozen BK160.out 1; have hfz28_2 := blk_frozen BK160.out 2; have hfz28_3 := blk_frozen BK160.out 3; have hfz28_4 := blk_frozen BK160.out 4; obtain ⟨Ao29, co29, eo29⟩ := Kd.R_slice HO156.out; subst eo29) | ((with_reducible refine gate_callee (f := 19) rfl ?_); refine goesL_ (some 28) rfl rfl Try.func19 (by kernel_rfl) rfl #[.agg #[.string t142, .int .u32 0, .int .u32 0, .int .u64 0], .int .u8 3, .agg #[.int .u8 t151, .int .u8 t152, .int .u32 t153, .slice Ao29 t154.length co29, .string t157]] rfl (by (try simp only [List.map_toArray, List.map_cons, List.map_nil]); first | done | rfl | (simp only [List.length_drop, List.length_take]; rfl)) ?_; (with_reducible refine (link_Accept.calls k t142 0 0 0 3 t151 t152 t153 _ _ t154 t157 t161 t162 t163 t164 t165 _ ?side1 ?side2 A4.out).mono ?_); (case side1 => refine (Kd.R_reads' (e := 5) (base := w.heap.size) (ok := fun k_ => (True ∧ some k_ ≠ (.slice Ao22 y144.length co22 : Value).ownBlock)) (n := t154.length) (c := co29) ?_).2.2; exact (by (with_reducible repeat (first | apply Kd.R_alloc | apply Kd.R_drewN | apply Kd.R_drew)); exact (Kd.R_mono (Kd.R_mono (Kd.R_far (p := ⟨gb160, 4, none⟩) (Kd.R_far (p := ⟨gb160, 3, none⟩) (Kd.R_far (p := ⟨gb160, 2, none⟩) (Kd.R_far (p := ⟨gb160, 1, none⟩) (Kd.R_far (p := ⟨gb160, 0, none⟩) (Kd.R_far (p := ⟨gb159, 3, none⟩) (Kd.R_far (p := ⟨gb159, 2, none⟩) (Kd.R_far (p := ⟨gb159, 1, none⟩) (Kd.R_far (p := ⟨gb159, 0, none⟩) (Kd.R_types (Kd.R_types HO156.out BK159.out (by decide)) BK160.out (by decide)) (fun _ hk => hk.1.2) (.string t147)) (fun _ hk => hk.1.2) (.int .u32 t148)) (fun _ hk => hk.1.2) (.int .u32 t149)) (fun _ hk => hk.1.2) (.int .u64 t150)) (fun _ hk => hk.2) (.int .u8 t151)) (fun _ hk => hk.2) (.int .u8 t152)) (fun _ hk => hk.2) (.int .u32 t153)) (fun _ hk => hk.2) (.slice Ao29 t154.length co29)) (fun _ hk => hk.2) (.string t157)) (fun _ h_ => h_.1)) (fun _ h_ => h_.1)))); (case side2 => exact (Kd.R_reads' HO156.out).2.1); rintro e w30 ⟨rfl, hb⟩; refine ⟨_, rfl, ?_⟩; have n0_ := Aside0.mk (Kd.R_below (by (with_reducible repeat (first | apply Kd.R_alloc | apply Kd.R_drewN | apply Kd.R_drew)); exact (Kd.R_mono (Kd.R_mono (Kd.R_far (p := ⟨gb160, 4, none⟩) (Kd.R_far (p := ⟨gb160, 3, none⟩) (Kd.R_far (p := ⟨gb160, 2, none⟩) (Kd.R_far (p := ⟨gb160, 1, none⟩) (Kd.R_far (p := ⟨gb160, 0, none⟩) (Kd.R_far (p := ⟨gb159, 3, none⟩) (Kd.R_far (p := ⟨gb159, 2, none⟩) (Kd.R_far (p := ⟨gb159, 1, none⟩) (Kd.R_far (p := ⟨gb159, 0, none⟩) (Kd.R_types (Kd.R_types HO146.out BK159.out (by decide)) BK160.out (by decide)) (fun _ hk => hk.1.2) (.string t147)) (fun _ hk => hk.1.2) (.int .u32 t148)) (fun _ hk => hk.1.2) (.int .u32 t149)) (fun _ hk => hk.1.2) (.int .u64 t150)) (fun _ hk => hk.2) (.int .u8 t151)) (fun _ hk => hk.2) (.int .u8 t152)) (fun _ hk => hk.2) (.int .u32 t153)) (fun _ hk => hk.2) (.slice Ao29 t154.length co29)) (fun _ hk => hk.2) (.string t157)) (fun _ h_ => h_.1)) (fun _ h_ => h_.1))) hb); have n1_ := Aside0.mk (Kd.R_below (by (with_reducible repeat (first | apply Kd.R_alloc | apply Kd.R_drewN | apply Kd.R_drew)); exact (Kd.R_mono (Kd.R_mono (Kd.R_far (p := ⟨gb160, 4, none⟩) (Kd.R_far (p := ⟨gb160, 3, none⟩) (Kd.R_far (p := ⟨gb160, 2, none⟩) (Kd.R_far (p := ⟨gb160, 1, none⟩) (Kd.R_far (p := ⟨gb160, 0, none⟩) (Kd.R_far (p := ⟨gb159, 3, none⟩) (Kd.R_far (p := ⟨gb159, 2, none⟩) (Kd.R_far (p := ⟨gb159, 1, none⟩) (Kd.R_far (p := ⟨gb159, 0, none⟩) (Kd.R_types (Kd.R_types HO156.out BK159.out (by decide)) BK160.out (by decide)) (fun _ hk => hk.1.2) (.string t147)) (fun _ hk => hk.1.2) (.int .u32 t148)) (fun _ hk => hk.1.2) (.int .u32 t149)) (fun _ hk => hk.1.2) (.int .u64 t150)) (fun _ hk => hk.2) (.int .u8 t151)) (fun _ hk => hk.2) (.int .u8 t152)) (fun _ hk => hk.2) (.int .u32 t153)) (fun _ hk => hk.2) (.slice Ao29 t154.length co29)) (fun _ hk => hk.2) (.string t157)) (fun _ h_ => h_.1)) (fun _ h_ => h_.1))) hb); have n2_ := Aside0.mk (blk_below (g := gb159) (o := .cells #[.string t147, .int .u32 t148, .int .u32 t149, .int .u64 t150] 41 (0, 0)) (by (with_reducible repeat (first | refine blk_drewN ?_ _ | refine blk_drew ?_ | refine blk_alloc ?_ _)); refine blk_far ?_ NB159_160.out _; (with_reducible repeat (first | refine blk_drewN ?_ _ | refine blk_drew ?_ | refine blk_alloc ?_ _)); refine blk_far ?_ NB159_160.out _; (with_reducible repeat (first | refine blk_drewN ?_ _ | refine blk_drew ?_ | refine blk_alloc ?_ _)); refine blk_far ?_ NB159_160.out _; (with_reducible repeat (first | refine blk_drewN ?_ _ | refine blk_drew ?_ | refine blk_alloc ?_ _)); refine blk_far ?_ NB159_160.out _; (with_reducible repeat (first | refine blk_drewN ?_ _ | refine blk_drew ?_ | refine blk_alloc ?_ _)); refine blk_far ?_ NB159_160.out _; (with_reducible repeat (first | refine blk_drewN ?_ _ | refine blk_drew ?_ | refine blk_alloc ?_ _)); refine blk_put (cs := #[.string t147, .int .u32 t148, .int .u32 t149, .int .u64 0]) ?_ 3 _ rfl; (with_reducible repeat (first | refine blk_drewN ?_ _ | refine blk_drew ?_ | refine blk_alloc ?_ _)); refine blk_put (cs := #[.string t147, .int .u32 t148, .int .u32 0, .int .u64 0]) ?_ 2 _ rfl; (with_reducible repeat (first | refine blk_drewN ?_ _ | refine blk_drew ?_ | refine blk_alloc ?_ _)); refine blk_put (cs := #[.string t147, .int .u32 0, .int .u32 0, .int .u64 0]) ?_ 1 _ rfl; (with_reducible repeat (first | refine blk_drewN ?_ _ | refine blk_drew ?_ | refine blk_alloc ?_ _)); refine blk_put (cs := #[.string (⟨#[]⟩ : ByteArray), .int .u32 0, .int .u32 0, .int .u64 0]) ?_ 0 _ rfl; (with_reducible repeat (first | refine blk_drewN ?_ _ | refine blk_drew ?_ | refine blk_alloc ?_ _)); exact BK159.out) hb); have n3_ := Aside0.mk (blk_below (g := gb160) (o := .cells #[.int .u8 t151, .int .u8 t152, .int .u32 t153, .slice Ao29 t154.length co29, .string t157] 35 (0, 0)) (by (with_reducible repeat (first | refine blk_drewN ?_ _ | refine blk_drew ?_ | refine blk_alloc ?_ _)); refine blk_put (cs := #[.int .u8 t151, .int .u8 t152, .int .u32 t153, .slice Ao29 t154.length co29, .string (⟨#[]⟩ : ByteArray)]) ?_ 4 _ rfl; (with_reducible repeat (first | refine blk_drewN ?_ _ | refine blk_drew ?_ | refine blk_alloc ?_ _)); refine blk_put (cs := #[.int .u8 t151, .int .u8 t152, .int .u32 t153, .slice none 0 0, .string (⟨#[]⟩ : ByteArray)]) ?_ 3 _ rfl; (with_reducible repeat (first | refine blk_drewN ?_ _ | refine blk_drew ?_ | refine blk_alloc ?_ _)); refine blk_put (cs := #[.int .u8 t151, .int .u8 t152, .int .u32 0, .slice none 0 0, .string (⟨#[]⟩ : ByteArray)]) ?_ 2 _ rfl; (with_reducible repeat (first | refine blk_drewN ?_ _ | refine blk_drew ?_ | refine blk_alloc ?_ _)); refine blk_put (cs := #[.int .u8 t151, .int .u8 0, .int .u32 0, .slice none 0 0, .string (⟨#[]⟩ : ByteArray)]) ?_ 1 _ rfl; (with_reducible repeat (first | refine blk_drewN ?_ _ | refine blk_drew ?_ | refine blk_alloc ?_ _)); refine blk_put (cs := #[.int .u8 0, .int .u8 0, .int .u32 0, .slice none 0 0, .string (⟨#[]⟩ : ByteArray)]) ?_ 0 _ rfl; (with_reducible repeat (first | refine blk_drewN ?_ _ | refine blk_drew ?_ | refine blk_alloc ?_ _)); refine blk_far ?_ NB160_159.out _; (with_reducible repeat (first | refine blk_drewN ?_ _ | refine blk_drew ?_ | refine blk_alloc ?_ _)); refine blk_far ?_ NB160_159.out _; (with_reducible repeat (first | refine blk_drewN ?_ _ | refine blk_drew ?_ | refine blk_alloc ?_ _)); refine blk_far ?_ NB160_159.out _; (with_reducible repeat (first | refine blk_drewN ?_ _ | refine blk_drew ?_ | refine blk_alloc ?_ _)); refine blk_far ?_ NB160_159.out _; (with_reducible repeat (first | refine blk_drewN ?_ _ | refine blk_drew ?_ | refine blk_alloc ?_ _)); exact BK160.out) hb); have n4_ := Aside0.mk (below_step (by repeat (first | (with_reducible first | exact HB.out | apply below_alloc | apply pw_below_drewN | apply below_drew1 | refine below_set ?_ GE159.out | refine below_set ?_ GE160.out) | exact HB.out)) hb); clear HO146; clear HO156; clear BK159; clear BK160; clear HB; have HO146 := n0_; have HO156 := n1_; have BK159 := n2_; have BK160 := n3_; have HB := n4_; clear n0_ n1_ n2_ n3_ n4_; (try clear hb); (try clear hb2); (try clear hk); (try clear hi)) | ((with_reducible refine gate_dst (N := 6) rfl ?_); refine box_event ?hg (N := 6) ?hd (cs := #[.string (⟨#[]⟩ : ByteArray), .int .u32 0, .int .u32 0, .int .u64 0]) (t := 41) ?hr ?_; (case hd => rfl); (case hg => rfl); (case hr => first | (go_simp; done) | (go_simp; rfl)); intro gb166 hg w31 hbox hb; have n0_ := Aside0.mk (Kd.R_below (by (with_reducible repeat (first | apply Kd.R_alloc | apply Kd.R_drewN | apply Kd.R_drew)); exact HO146.out) hb); have n1_ := Aside0.mk (Kd.R_below (by (with_reducible repeat (first | apply Kd.R_alloc | apply Kd.R_drewN | apply Kd.R_drew)); exact HO156.out) hb); have n2_ := Aside0.mk (blk_below (g := gb159) (o := .cells #[.string t147, .int .u32 t148, .int .u32 t149, .int .u64 t150] 41 (0, 0)) (by (with_reducible repeat (first | refine blk_drewN ?_ _ | refine blk_drew ?_ | refine blk_alloc ?_ _)); exact BK159.out) hb); have n3_ := Aside0.mk (blk_below (g := gb160) (o := .cells #[.int .u8 t151, .int .u8 t152, .int .u32 t153, .slice Ao29 t154.length co29, .string t157] 35 (0, 0)) (by (with_reducible repeat (first | refine blk_drewN ?_ _ | refine blk_drew ?_ | refine blk_alloc ?_ _)); exact BK160.out) hb); have n4_ := Aside0.mk (below_step (by repeat (first | (with_reducible first | exact HB.out | apply below_alloc | apply pw_below_drewN | apply below_drew1 | refine below_set ?_ GE159.out | refine below_set ?_ GE160.out) | exact HB.out)) hb); have n5_ := Aside0.mk (hbox); have n6_ := Aside0.mk ((by rw [hg]; exact (below_size (by repeat (first | (with_reducible first | exact HB.out | apply below_alloc | apply pw_below_drewN | apply below_drew1 | refine below_set ?_ GE159.out | refine below_set ?_ GE160.out) | exact HB.out))) : w.heap.size ≤ gb166)); have n7_ := Aside0.mk ((by rw [hg]; exact (below_size (by repeat (first | (with_reducible first | exact HB.out | apply below_alloc | apply pw_below_drewN | apply below_drew1 | refine below_set ?_ GE159.out | refine below_set ?_ GE160.out) | exact HB.out))) : w.heap.size ≤ gb166)); have n8_ := Aside0.mk ((by rw [hg]; exact Nat.ne_of_lt (blk_lt (g := gb159) (o := .cells #[.string t147, .int .u32 t148, .int .u32 t149, .int .u64 t150] 41 (0, 0)) (by (with_reducible repeat (first | refine blk_drewN ?_ _ | refine blk_drew ?_ | refine blk_alloc ?_ _)); exact BK159.out)) : gb159 ≠ gb166)); have n9_ := Aside0.mk ((by rw [hg]; exact Nat.ne_of_gt (blk_lt (g := gb159) (o := .cells #[.string t147, .int .u32 t148, .int .u32 t149, .int .u64 t150] 41 (0, 0)) (by (with_reducible repeat (first | refine blk_drewN ?_ _ | refine blk_drew ?_ | refine blk_alloc ?_ _)); exact BK159.out)) : gb166 ≠ gb159)); have n10_ := Aside0.mk ((by rw [hg]; exact Nat.ne_of_lt (blk_lt (g := gb160) (o := .cells #[.int .u8 t151, .int .u8 t152, .int .u32 t153, .slice Ao29 t154.length co29, .string t157] 35 (0, 0)) (by (with_reducible repeat (first | refine blk_drewN ?_ _ | refine blk_drew ?_ | refine blk_alloc ?_ _)); exact BK160.out)) : gb160 ≠ gb166)); have n11_ := Aside0.mk ((by rw [hg]; exact Nat.ne_of_gt (blk_lt (g := gb160) (o := .cells #[.int .u8 t151, .int .u8 t152, .int .u32 t153, .slice Ao29 t154.length co29, .string t157] 35 (0, 0)) (by (with_reducible repeat (first | refine blk_drewN ?_ _ | refine blk_drew ?_ | refine blk_alloc ?_ _)); exact BK160.out)) : gb166 ≠ gb160)); clear HO146; clear HO156; clear BK159; clear BK160; clear HB; have HO146 := n0_; have HO156 := n1_; have BK159 := n2_; have BK160 := n3_; have HB := n4_; have BK166 := n5_; have GW166 := n6_; have GE166 := n7_; have NB159_166 := n8_; have NB166_159 := n9_; have NB160_166 := n10_; have NB166_160 := n11_; clear n0_ n1_ n2_ n3_ n4_ n5_ n6_ n7_ n8_ n9_ n10_ n11_; clear hb hbox hg; have hnb32 := NB166_159.out; have hnc32 := NB159_166.out; have hnb33 := NB166_160.out; have hnc33 := NB160_166.out; have hcz34_0 : w31.cell? ⟨gb166, 0, none⟩ = some (.string (⟨#[]⟩ : ByteArray)) := (blk_cell BK166.out 0).trans rfl; have hcz34_1 : w31.cell? ⟨gb166, 1, none⟩ = some (.int .u32 0) := (blk_cell BK166.out 1).trans rfl; have hcz34_2 : w31.cell? ⟨gb166, 2, none⟩ = some (.int .u32 0) := (blk_cell BK166.out 2).trans rfl; have hcz34_3 : w31.cell? ⟨gb166, 3, none⟩ = some (.int .u64 0) := (blk_cell BK166.out 3).trans rfl; have hfz34_0 := blk_frozen BK166.out 0; have hfz34_1 := blk_frozen BK166.out 1; have hfz34_2 := blk_frozen BK166.out 2; have hfz34_3 := blk_frozen BK166.out 3; have hcz35_0 : w31.cell? ⟨gb160, 0, none⟩ = some (.int .u8 t151) := (blk_cell BK160.out 0).trans rfl; have hcz35_1 : w31.cell? ⟨gb160, 1, none⟩ = some (.int .u8 t152) := (blk_cell BK160.out 1).trans rfl; have hcz35_2 : w31.cell? ⟨gb160, 2, none⟩ = some (.int .u32 t153) := (blk_cell BK160.out 2).trans rfl; have hcz35_3 : w31.cell? ⟨gb160, 3, none⟩ = some (.slice Ao29 t154.length co29) := (blk_cell BK160.out 3).trans rfl; have hcz35_4 : w31.cell? ⟨gb160, 4, none⟩ = some (.string t157) := (blk_cell BK160.out 4).trans rfl; have hfz35_0 := blk_frozen BK160.out 0; have hfz35_1 := blk_frozen BK160.out 1; have hfz35_2 := blk_frozen BK160.out 2; have hfz35_3 := blk_frozen BK160.out 3; have hfz35_4 := blk_frozen BK160.out 4) | ((with_reducible refine gate_callee (f := 19) rfl ?_); refine goesL_ (some 34) rfl rfl Try.func19 (by kernel_rfl) rfl #[.agg #[.string t161, .int .u32 t162, .int .u32 t163, .int .u64 t164], .int .u8 3, .agg #[.int .u8 t151, .int .u8 t152, .int .u32 t153, .slice Ao29 t154.length co29, .string t157]] rfl (by (try simp only [List.map_toArray, List.map_cons, List.map_nil]); first | done | rfl | (simp only [List.length_drop, List.length_take]; rfl)) ?_; (with_reducible refine (link_Accept.calls k t161 t162 t163 t164 3 t151 t152 t153 _ _ t154 t157 t167 t168 t169 t170 t171 _ ?side1 ?side2 A5.out).mono ?_); (case side1 => refine (Kd.R_reads' (e := 5) (base := w.heap.size) (ok := fun k_ => (True ∧ some k_ ≠ (.slice Ao22 y144.length co22 : Value).ownBlock)) (n := t154.length) (c := co29) ?_).2.2; exact (by (with_reducible repeat (first | apply Kd.R_alloc | apply Kd.R_drewN | apply Kd.R_drew)); exact (Kd.R_mono (Kd.R_far (p := ⟨gb166, 3, none⟩) (Kd.R_far (p := ⟨gb166, 2, none⟩) (Kd.R_far (p := ⟨gb166, 1, none⟩) (Kd.R_far (p := ⟨gb166, 0, none⟩) (Kd.R_types HO156.out BK166.out (by decide)) (fun _ hk => hk.2) (.string t161)) (fun _ hk => hk.2) (.int .u32 t162)) (fun _ hk => hk.2) (.int .u32 t163)) (fun _ hk => hk.2) (.int .u64 t164)) (fun _ h_ => h_.1)))); (case side2 => exact (Kd.R_reads' HO156.out).2.1); rintro e w36 ⟨rfl, hb⟩; refine ⟨_, rfl, ?_⟩; have n0_ := Aside0.mk (Kd.R_below (by (with_reducible repeat (first | apply Kd.R_alloc | apply Kd.R_drewN | apply Kd.R_drew)); exact (Kd.R_mono (Kd.R_far (p := ⟨gb166, 3, none⟩) (Kd.R_far (p := ⟨gb166, 2, none⟩) (Kd.R_far (p := ⟨gb166, 1, none⟩) (Kd.R_far (p := ⟨gb166, 0, none⟩) (Kd.R_types HO146.out BK166.out (by decide)) (fun _ hk => hk.2) (.string t161)) (fun _ hk => hk.2) (.int .u32 t162)) (fun _ hk => hk.2) (.int .u32 t163)) (fun _ hk => hk.2) (.int .u64 t164)) (fun _ h_ => h_.1))) hb); have n1_ := Aside0.mk (Kd.R_below (by (with_reducible repeat (first | apply Kd.R_alloc | apply Kd.R_drewN | apply Kd.R_drew)); exact (Kd.R_mono (Kd.R_far (p := ⟨gb166, 3, none⟩) (Kd.R_far (p := ⟨gb166, 2, none⟩) (Kd.R_far (p := ⟨gb166, 1, none⟩) (Kd.R_far (p := ⟨gb166, 0, none⟩) (Kd.R_types HO156.out BK166.out (by decide)) (fun _ hk => hk.2) (.string t161)) (fun _ hk => hk.2) (.int .u32 t162)) (fun _ hk => hk.2) (.int .u32 t163)) (fun _ hk => hk.2) (.int .u64 t164)) (fun _ h_ => h_.1))) hb); have n2_ := Aside0.mk (blk_below (g := gb159) (o := .cells #[.string t147, .int .u32 t148, .int .u32 t149, .int .u64 t150] 41 (0, 0)) (by (with_reducible repeat (first | refine blk_drewN ?_ _ | refine blk_drew ?_ | refine blk_alloc ?_ _)); refine blk_far ?_ NB159_166.out _; (with_reducible repeat (first | refine blk_drewN ?_ _ | refine blk_drew ?_ | refine blk_alloc ?_ _)); refine blk_far ?_ NB159_166.out _; (with_reducible repeat (first | refine blk_drewN ?_ _ | refine blk_drew ?_ | refine blk_alloc ?_ _)); refine blk_far ?_ NB159_166.out _; (with_reducible repeat (first | refine blk_drewN ?_ _ | refine blk_drew ?_ | refine blk_alloc ?_ _)); refine blk_far ?_ NB159_166.out _; (with_reducible repeat (first | refine blk_drewN ?_ _ | refine blk_drew ?_ | refine blk_alloc ?_ _)); exact BK159.out) hb); have n3_ := Aside0.mk (blk_below (g := gb160) (o := .cells #[.int .u8 t151, .int .u8 t152, .int .u32 t153, .slice Ao29 t154.length co29, .string t157] 35 (0, 0)) (by (with_reducible repeat (first | refine blk_drewN ?_ _ | refine blk_drew ?_ | refine blk_alloc ?_ _)); refine blk_far ?_ NB160_166.out _; (with_reducible repeat (first | refine blk_drewN ?_ _ | refine blk_drew ?_ | refine blk_alloc ?_ _)); refine blk_far ?_ NB160_166.out _; (with_reducible repeat (first | refine blk_drewN ?_ _ | refine blk_drew ?_ | refine blk_alloc ?_ _)); refine blk_far ?_ NB160_166.out _; (with_reducible repeat (first | refine blk_drewN ?_ _ | refine blk_drew ?_ | refine blk_alloc ?_ _)); refine blk_far ?_ NB160_166.out _; (with_reducible repeat (first | refine blk_drewN ?_ _ | refine blk_drew ?_ | refine blk_alloc ?_ _)); exact BK160.out) hb); have n4_ := Aside0.mk (blk_below (g := gb166) (o := .cells #[.string t161, .int .u32 t162, .int .u32 t163, .int .u64 t164] 41 (0, 0)) (by (with_reducible repeat (first | refine blk_drewN ?_ _ | refine blk_drew ?_ | refine blk_alloc ?_ _)); refine blk_put (cs := #[.string t161, .int .u32 t162, .int .u32 t163, .int .u64 0]) ?_ 3 _ rfl; (with_reducible repeat (first | refine blk_drewN ?_ _ | refine blk_drew ?_ | refine blk_alloc ?_ _)); refine blk_put (cs := #[.string t161, .int .u32 t162, .int .u32 0, .int .u64 0]) ?_ 2 _ rfl; (with_reducible repeat (first | refine blk_drewN ?_ _ | refine blk_drew ?_ | refine blk_alloc ?_ _)); refine blk_put (cs := #[.string t161, .int .u32 0, .int .u32 0, .int .u64 0]) ?_ 1 _ rfl; (with_reducible repeat (first | refine blk_drewN ?_ _ | refine blk_drew ?_ | refine blk_alloc ?_ _)); refine blk_put (cs := #[.string (⟨#[]⟩ : ByteArray), .int .u32 0, .int .u32 0, .int .u64 0]) ?_ 0 _ rfl; (with_reducible repeat (first | refine blk_drewN ?_ _ | refine blk_drew ?_ | refine blk_alloc ?_ _)); exact BK166.out) hb); have n5_ := Aside0.mk (below_step (by repeat (first | (with_reducible first | exact HB.out | apply below_alloc | apply pw_below_drewN | apply below_drew1 | refine below_set ?_ GE159.out | refine below_set ?_ GE160.out | refine below_set ?_ GE166.out) | exact HB.out)) hb); clear HO146; clear HO156; clear BK159; clear BK160; clear BK166; clear HB; have HO146 := n0_; have HO156 := n1_; have BK159 := n2_; have BK160 := n3_; have BK166 := n4_; have HB := n5_; clear n0_ n1_ n2_ n3_ n4_ n5_; (try clear hb); (try clear hb2); (try clear hk); (try clear hi)) | ((with_reducible refine gate_dst (N := 8) rfl ?_); refine box_event ?hg (N := 8) ?hd (cs := #[.string (⟨#[]⟩ : ByteArray), .int .u32 0, .int .u32 0, .int .u64 0]) (t := 41) ?hr ?_; (case hd => rfl); (case hg => rfl); (case hr => first | (go_simp; done) | (go_simp; rfl)); intro gb172 hg w37 hbox hb; have n0_ := Aside0.mk (Kd.R_below (by (with_reducible repeat (first | apply Kd.R_alloc | apply Kd.R_drewN | apply Kd.R_drew)); exact HO146.out) hb); have n1_ := Aside0.mk (Kd.R_below (by (with_reducible repeat (first | apply Kd.R_alloc | apply Kd.R_drewN | apply Kd.R_drew)); exact HO156.out) hb); have n2_ := Aside0.mk (blk_below (g := gb159) (o := .cells #[.string t147, .int .u32 t148, .int .u32 t149, .int .u64 t150] 41 (0, 0)) (by (with_reducible repeat (first | refine blk_drewN ?_ _ | refine blk_drew ?_ | refine blk_alloc ?_ _)); exact BK159.out) hb); have n3_ := Aside0.mk (blk_below (g := gb160) (o := .cells #[.int .u8 t151, .int .u8 t152, .int .u32 t153, .slice Ao29 t154.length co29, .string t157] 35 (0, 0)) (by (with_reducible repeat (first | refine blk_drewN ?_ _ | refine blk_drew ?_ | refine blk_alloc ?_ _)); exact BK160.out) hb); have n4_ := Aside0.mk (blk_below (g := gb166) (o := .cells #[.string t161, .int .u32 t162, .int .u32 t163, .int .u64 t164] 41 (0, 0)) (by (with_reducible repeat (first | refine blk_drewN ?_ _ | refine blk_drew ?_ | refine blk_alloc ?_ _)); exact BK166.out) hb); have n5_ := Aside0.mk (below_step (by repeat (first | (with_reducible first | exact HB.out | apply below_alloc | apply pw_below_drewN | apply below_drew1 | refine below_set ?_ GE159.out | refine below_set ?_ GE160.out | refine below_set ?_ GE166.out) | exact HB.out)) hb); have n6_ := Aside0.mk (hbox); have n7_ := Aside0.mk ((by rw [hg]; exact (below_size (by repeat (first | (with_reducible first | exact HB.out | apply below_alloc | apply pw_below_drewN | apply below_drew1 | refine below_set ?_ GE159.out | refine below_set ?_ GE160.out | refine below_set ?_ GE166.out) | exact HB.out))) : w.heap.size ≤ gb172)); have n8_ := Aside0.mk ((by rw [hg]; exact (below_size (by repeat (first | (with_reducible first | exact HB.out | apply below_alloc | apply pw_below_drewN | apply below_drew1 | refine below_set ?_ GE159.out | refine below_set ?_ GE160.out | refine below_set ?_ GE166.out) | exact HB.out))) : w.heap.size ≤ gb172)); have n9_ := Aside0.mk ((by rw [hg]; exact Nat.ne_of_lt (blk_lt (g := gb159) (o := .cells #[.string t147, .int .u32 t148, .int .u32 t149, .int .u64 t150] 41 (0, 0)) (by (with_reducible repeat (first | refine blk_drewN ?_ _ | refine blk_drew ?_ | refine blk_alloc ?_ _)); exact BK159.out)) : gb159 ≠ gb172)); have n10_ := Aside0.mk ((by rw [hg]; exact Nat.ne_of_gt (blk_lt (g := gb159) (o := .cells #[.string t147, .int .u32 t148, .int .u32 t149, .int .u64 t150] 41 (0, 0)) (by (with_reducible repeat (first | refine blk_drewN ?_ _ | refine blk_drew ?_ | refine blk_alloc ?_ _)); exact BK159.out)) : gb172 ≠ gb159)); have n11_ := Aside0.mk ((by rw [hg]; exact Nat.ne_of_lt (blk_lt (g := gb160) (o := .cells #[.int .u8 t151, .int .u8 t152, .int .u32 t153, .slice Ao29 t154.length co29, .string t157] 35 (0, 0)) (by (with_reducible repeat (first | refine blk_drewN ?_ _ | refine blk_drew ?_ | refine blk_alloc ?_ _)); exact BK160.out)) : gb160 ≠ gb172)); have n12_ := Aside0.mk ((by rw [hg]; exact Nat.ne_of_gt (blk_lt (g := gb160) (o := .cells #[.int .u8 t151, .int .u8 t152, .int .u32 t153, .slice Ao29 t154.length co29, .string t157] 35 (0, 0)) (by (with_reducible repeat (first | refine blk_drewN ?_ _ | refine blk_drew ?_ | refine blk_alloc ?_ _)); exact BK160.out)) : gb172 ≠ gb160)); have n13_ := Aside0.mk ((by rw [hg]; exact Nat.ne_of_lt (blk_lt (g := gb166) (o := .cells #[.string t161, .int .u32 t162, .int .u32 t163, .int .u64 t164] 41 (0, 0)) (by (with_reducible repeat (first | refine blk_drewN ?_ _ | refine blk_drew ?_ | refine blk_alloc ?_ _)); exact BK166.out)) : gb166 ≠ gb172)); have n14_ := Aside0.mk ((by rw [hg]; exact Nat.ne_of_gt (blk_lt (g := gb166) (o := .cells #[.string t161, .int .u32 t162, .int .u32 t163, .int .u64 t164] 41 (0, 0)) (by (with_reducible repeat (first | refine blk_drewN ?_ _ | refine blk_drew ?_ | refine blk_alloc ?_ _)); exact BK166.out)) : gb172 ≠ gb166)); clear HO146; clear HO156; clear BK159; clear BK160; clear BK166; clear HB; have HO146 := n0_; have HO156 := n1_; have BK159 := n2_; have BK160 := n3_; have BK166 := n4_; have HB := n5_; have BK172 := n6_; have GW172 := n7_; have GE172 := n8_; have NB159_172 := n9_; have NB172_159 := n10_; have NB160_172 := n11_; have NB172_160 := n12_; have NB166_172 := n13_; have NB172_166 := n14_; clear n0_ n1_ n2_ n3_ n4_ n5_ n6_ n7_ n8_ n9_ n10_ n11_ n12_ n13_ n14_; clear hb hbox hg; have hnb38 := NB172_159.out; have hnc38 := NB159_172.out; have hnb39 := NB172_160.out; have hnc39 := NB160_172.out; have hnb40 := NB172_166.out; have hnc40 := NB166_172.out; have hcz41_0 : w37.cell? ⟨gb172, 0, none⟩ = some (.string (⟨#[]⟩ : ByteArray)) := (blk_cell BK172.out 0).trans rfl; have hcz41_1 : w37.cell? ⟨gb172, 1, none⟩ = some (.int .u32 0) := (blk_cell BK172.out 1).trans rfl; have hcz41_2 : w37.cell? ⟨gb172, 2, none⟩ = some (.int .u32 0) := (blk_cell BK172.out 2).trans rfl; have hcz41_3 : w37.cell? ⟨gb172, 3, none⟩ = some (.int .u64 0) := (blk_cell BK172.out 3).trans rfl; have hfz41_0 := blk_frozen BK172.out 0; have hfz41_1 := blk_frozen BK172.out 1; have hfz41_2 := blk_frozen BK172.out 2; have hfz41_3 := blk_frozen BK172.out 3; have hcz42_0 : w37.cell? ⟨gb159, 0, none⟩ = some (.string t147) := (blk_cell BK159.out 0).trans rfl; have hcz42_1 : w37.cell? ⟨gb159, 1, none⟩ = some (.int .u32 t148) := (blk_cell BK159.out 1).trans rfl; have hcz42_2 : w37.cell? ⟨gb159, 2, none⟩ = some (.int .u32 t149) := (blk_cell BK159.out 2).trans rfl; have hcz42_3 : w37.cell? ⟨gb159, 3, none⟩ = some (.int .u64 t150) := (blk_cell BK159.out 3).trans rfl; have hfz42_0 := blk_frozen BK159.out 0; have hfz42_1 := blk_frozen BK159.out 1; have hfz42_2 := blk_frozen BK159.out 2; have hfz42_3 := blk_frozen BK159.out 3; have hcz43_0 : w37.cell? ⟨gb160, 0, none⟩ = some (.int .u8 t151) := (blk_cell BK160.out 0).trans rfl; have hcz43_1 : w37.cell? ⟨gb160, 1, none⟩ = some (.int .u8 t152) := (blk_cell BK160.out 1).trans rfl; have hcz43_2 : w37.cell? ⟨gb160, 2, none⟩ = some (.int .u32 t153) := (blk_cell BK160.out 2).trans rfl; have hcz43_3 : w37.cell? ⟨gb160, 3, none⟩ = some (.slice Ao29 t154.length co29) := (blk_cell BK160.out 3).trans rfl; have hcz43_4 : w37.cell? ⟨gb160, 4, none⟩ = some (.string t157) := (blk_cell BK160.out 4).trans rfl; have hfz43_0 := blk_frozen BK160.out 0; have hfz43_1 := blk_frozen BK160.out 1; have hfz43_2 := blk_frozen BK160.out 2; have hfz43_3 := blk_frozen BK160.out 3; have hfz43_4 := blk_frozen BK160.out 4; have hcz44_0 : w37.cell? ⟨gb166, 0, none⟩ = some (.string t161) := (blk_cell BK166.out 0).trans rfl; have hcz44_1 : w37.cell? ⟨gb166, 1, none⟩ = some (.int .u32 t162) := (blk_cell BK166.out 1).trans rfl; have hcz44_2 : w37.cell? ⟨gb166, 2, none⟩ = some (.int .u32 t163) := (blk_cell BK166.out 2).trans rfl; have hcz44_3 : w37.cell? ⟨gb166, 3, none⟩ = some (.int .u64 t164) := (blk_cell BK166.out 3).trans rfl; have hfz44_0 := blk_frozen BK166.out 0; have hfz44_1 := blk_frozen BK166.out 1; have hfz44_2 := blk_frozen BK166.out 2; have hfz44_3 := blk_frozen BK166.out 3))
                          go_ret
                          exact ⟨by first | rfl | (simp [errW_none, errW_some] <;> rfl) | (simp [*, errW_none, errW_some] <;> rfl), by repeat (first | (with_reducible first | exact HB.out | apply below_alloc | apply pw_below_drewN | apply below_drew1 | refine below_set ?_ GE159.out | refine below_set ?_ GE160.out | refine below_set ?_ GE166.out | refine below_set ?_ GE172.out) | exact HB.out)⟩
                        · rw [if_neg c17] at H
                          exact absurd ((Option.some.inj H).trans HTRUE) (by decide)
                      · rw [if_neg c16] at H
                        exact absurd ((Option.some.inj H).trans HTRUE) (by decide)
                    · rw [if_neg c15] at H
                      exact absurd ((Option.some.inj H).trans HTRUE) (by decide)
                  · rw [if_neg c14] at H
                    exact absurd ((Option.some.inj H).trans HTRUE) (by decide)
                · rw [if_neg c13] at H
                  exact absurd ((Option.some.inj H).trans HTRUE) (by decide)
              · rw [if_neg c12] at H
                exact absurd H (by simp)
            · rw [if_neg c11] at H
              exact absurd H (by simp)
          · rw [if_neg c10] at H
            exact absurd ((Option.some.inj H).trans HTRUE) (by decide)
        · rw [if_neg c9] at H
          exact absurd ((Option.some.inj H).trans HTRUE) (by decide)
      · rw [if_neg c8] at H
        exact absurd ((Option.some.inj H).trans HTRUE) (by decide)
    · rw [if_neg c7] at H
      exact absurd ((Option.some.inj H).trans HTRUE) (by decide)
  · rw [if_neg c6] at H
    exact absurd ((Option.some.inj H).trans HTRUE) (by decide)

/-! ### chantrylaw06_few: function 12 -/
def chantrylaw06_few.f (a0_0 : Int) (a0_1 : Int) (a0_2 : Int) (l0_3 : List Int) (a0_4 : ByteArray) : Option (Bool) := if (l0_3.length : Int) ≤ 1100 then (some (decide ((a0_4.size : Int) ≤ 3000))) else (some false)
set_option maxHeartbeats 8000000 in
set_option maxRecDepth 100000 in
theorem chantrylaw06_few.calls (a0_0 : Int) (a0_1 : Int) (a0_2 : Int) (A0_3 : Option Addr) (c0_3 : Nat) (l0_3 : List Int) (a0_4 : ByteArray) (r : Bool) (w : World) (hr0_3 : Kd.C (Kd.int .u8) w A0_3 l0_3.length l0_3) (hc0_3 : l0_3.length ≤ c0_3) (h : chantrylaw06_few.f a0_0 a0_1 a0_2 l0_3 a0_4 = some r) :
    Calls Try.prog 12 #[.agg #[.int .u8 a0_0, .int .u8 a0_1, .int .u32 a0_2, .slice A0_3 l0_3.length c0_3, .string a0_4]] w fun e w' => e = .returned (.bool r) ∧ Below w.heap.size w w' := by
  have hu26 := Try.underlying26
  have HR0_3 := Aside0.mk hr0_3
  have HC0_3 := Aside0.mk hc0_3
  clear hr0_3 hc0_3
  have HB := Aside0.mk (Below.refl w.heap.size w)
  have H : (if (l0_3.length : Int) ≤ 1100 then (some (decide ((a0_4.size : Int) ≤ 3000))) else (some false)) = some r := h
  clear h
  by_cases c2 : (l0_3.length : Int) ≤ 1100
  · rw [if_pos c2] at H
    have c2b0 : decide ((l0_3.length : Int) ≤ 1100) = true := decide_eq_true c2
    have c2b1 : decide (l0_3.length ≤ 1100) = true := decide_eq_true (by omega)
    clear c2
    obtain rfl := Option.some.inj H
    go_enter Try.func12, Try.ntmps12
    go_wp2_with (first | ((with_reducible refine gate_dst (N := 1) rfl ?_); (try (refine gate_guard (by rfl) ?_; dsimp only)); refine box_event ?hg (N := 1) ?hd (cs := #[.int .u8 a0_0, .int .u8 a0_1, .int .u32 a0_2, .slice A0_3 l0_3.length c0_3, .string a0_4]) (t := 26) ?hr ?_; (case hd => rfl); (case hg => rfl); (case hr => first | (go_simp; done) | (go_simp; rfl)); intro gb173 hg w3 hbox hb; have n0_ := Aside0.mk (below_step (by repeat (first | (with_reducible first | exact HB.out | apply below_alloc | apply pw_below_drewN | apply below_drew1) | exact HB.out)) hb); have n1_ := Aside0.mk (hbox); have n2_ := Aside0.mk ((by rw [hg]; exact (below_size (by repeat (first | (with_reducible first | exact HB.out | apply below_alloc | apply pw_below_drewN | apply below_drew1) | exact HB.out))) : w.heap.size ≤ gb173)); have n3_ := Aside0.mk ((by rw [hg]; exact (below_size (by repeat (first | (with_reducible first | exact HB.out | apply below_alloc | apply pw_below_drewN | apply below_drew1) | exact HB.out))) : w.heap.size ≤ gb173)); clear HB; have HB := n0_; have BK173 := n1_; have GW173 := n2_; have GE173 := n3_; clear n0_ n1_ n2_ n3_; clear hb hbox hg; have hcz4_0 : w3.cell? ⟨gb173, 0, none⟩ = some (.int .u8 a0_0) := (blk_cell BK173.out 0).trans rfl; have hcz4_1 : w3.cell? ⟨gb173, 1, none⟩ = some (.int .u8 a0_1) := (blk_cell BK173.out 1).trans rfl; have hcz4_2 : w3.cell? ⟨gb173, 2, none⟩ = some (.int .u32 a0_2) := (blk_cell BK173.out 2).trans rfl; have hcz4_3 : w3.cell? ⟨gb173, 3, none⟩ = some (.slice A0_3 l0_3.length c0_3) := (blk_cell BK173.out 3).trans rfl; have hcz4_4 : w3.cell? ⟨gb173, 4, none⟩ = some (.string a0_4) := (blk_cell BK173.out 4).trans rfl; have hfz4_0 := blk_frozen BK173.out 0; have hfz4_1 := blk_frozen BK173.out 1; have hfz4_2 := blk_frozen BK173.out 2; have hfz4_3 := blk_frozen BK173.out 3; have hfz4_4 := blk_frozen BK173.out 4))
    go_ret
    exact ⟨by first | rfl | (simp [errW_none, errW_some] <;> rfl) | (simp [*, errW_none, errW_some] <;> rfl), by repeat (first | (with_reducible first | exact HB.out | apply below_alloc | apply pw_below_drewN | apply below_drew1 | refine below_set ?_ GE173.out) | exact HB.out)⟩
  · rw [if_neg c2] at H
    have c2b0 : decide ((l0_3.length : Int) ≤ 1100) = false := decide_eq_false c2
    have c2b1 : decide (l0_3.length ≤ 1100) = false := decide_eq_false (by omega)
    clear c2
    obtain rfl := Option.some.inj H
    go_enter Try.func12, Try.ntmps12
    go_wp2_with (first | ((with_reducible refine gate_dst (N := 1) rfl ?_); (try (refine gate_guard (by rfl) ?_; dsimp only)); refine box_event ?hg (N := 1) ?hd (cs := #[.int .u8 a0_0, .int .u8 a0_1, .int .u32 a0_2, .slice A0_3 l0_3.length c0_3, .string a0_4]) (t := 26) ?hr ?_; (case hd => rfl); (case hg => rfl); (case hr => first | (go_simp; done) | (go_simp; rfl)); intro gb173 hg w5 hbox hb; have n0_ := Aside0.mk (below_step (by repeat (first | (with_reducible first | exact HB.out | apply below_alloc | apply pw_below_drewN | apply below_drew1) | exact HB.out)) hb); have n1_ := Aside0.mk (hbox); have n2_ := Aside0.mk ((by rw [hg]; exact (below_size (by repeat (first | (with_reducible first | exact HB.out | apply below_alloc | apply pw_below_drewN | apply below_drew1) | exact HB.out))) : w.heap.size ≤ gb173)); have n3_ := Aside0.mk ((by rw [hg]; exact (below_size (by repeat (first | (with_reducible first | exact HB.out | apply below_alloc | apply pw_below_drewN | apply below_drew1) | exact HB.out))) : w.heap.size ≤ gb173)); clear HB; have HB := n0_; have BK173 := n1_; have GW173 := n2_; have GE173 := n3_; clear n0_ n1_ n2_ n3_; clear hb hbox hg; have hcz6_0 : w5.cell? ⟨gb173, 0, none⟩ = some (.int .u8 a0_0) := (blk_cell BK173.out 0).trans rfl; have hcz6_1 : w5.cell? ⟨gb173, 1, none⟩ = some (.int .u8 a0_1) := (blk_cell BK173.out 1).trans rfl; have hcz6_2 : w5.cell? ⟨gb173, 2, none⟩ = some (.int .u32 a0_2) := (blk_cell BK173.out 2).trans rfl; have hcz6_3 : w5.cell? ⟨gb173, 3, none⟩ = some (.slice A0_3 l0_3.length c0_3) := (blk_cell BK173.out 3).trans rfl; have hcz6_4 : w5.cell? ⟨gb173, 4, none⟩ = some (.string a0_4) := (blk_cell BK173.out 4).trans rfl; have hfz6_0 := blk_frozen BK173.out 0; have hfz6_1 := blk_frozen BK173.out 1; have hfz6_2 := blk_frozen BK173.out 2; have hfz6_3 := blk_frozen BK173.out 3; have hfz6_4 := blk_frozen BK173.out 4))
    go_ret
    exact ⟨by first | rfl | (simp [errW_none, errW_some] <;> rfl) | (simp [*, errW_none, errW_some] <;> rfl), by repeat (first | (with_reducible first | exact HB.out | apply below_alloc | apply pw_below_drewN | apply below_drew1 | refine below_set ?_ GE173.out) | exact HB.out)⟩

/-! ### chantryref06_two: function 28 -/
def chantryref06_two.f (a0 : Int) (a1 : Int) : Option (Bool) := if a0 < 16 then (if a1 < 16 then (some (a0 != a1)) else (some false)) else (some false)
set_option maxHeartbeats 8000000 in
set_option maxRecDepth 100000 in
theorem chantryref06_two.calls (a0 : Int) (a1 : Int) (r : Bool) (w : World) (h : chantryref06_two.f a0 a1 = some r) :
    Calls Try.prog 28 #[.int .u8 a0, .int .u8 a1] w fun e w' => e = .returned (.bool r) ∧ Drawn0 w w' := by
  have H : (if a0 < 16 then (if a1 < 16 then (some (a0 != a1)) else (some false)) else (some false)) = some r := h
  clear h
  by_cases c3 : a0 < 16
  · rw [if_pos c3] at H
    have c3b0 : decide (a0 < 16) = true := decide_eq_true c3
    clear c3
    by_cases c4 : a1 < 16
    · rw [if_pos c4] at H
      have c4b0 : decide (a1 < 16) = true := decide_eq_true c4
      clear c4
      obtain rfl := Option.some.inj H
      go_enter Try.func28, Try.ntmps28
      go_wp2
      go_ret
      exact ⟨by first | rfl | (simp; done) | (simp [*]; done), by repeat (first | exact Drawn0.refl _ | apply Drawn0.step)⟩
    · rw [if_neg c4] at H
      have c4b0 : decide (a1 < 16) = false := decide_eq_false c4
      clear c4
      obtain rfl := Option.some.inj H
      go_enter Try.func28, Try.ntmps28
      go_wp2
      go_ret
      exact ⟨by first | rfl | (simp; done) | (simp [*]; done), by repeat (first | exact Drawn0.refl _ | apply Drawn0.step)⟩
  · rw [if_neg c3] at H
    have c3b0 : decide (a0 < 16) = false := decide_eq_false c3
    clear c3
    obtain rfl := Option.some.inj H
    go_enter Try.func28, Try.ntmps28
    go_wp2
    go_ret
    exact ⟨by first | rfl | (simp; done) | (simp [*]; done), by repeat (first | exact Drawn0.refl _ | apply Drawn0.step)⟩

/-! ### chantryref03_Const: function 29 -/
def chantryref03_Const.f (a0 : ByteArray) : Option (ByteArray × Int) := if (a0.size : Int) > 40 then (some ((⟨#[]⟩ : ByteArray), 3)) else ((some (([99, ((a0.size : Int)) % 256] : List Int) : List Int)).bind fun y174 => (if (strOfNums y174).size + a0.size ≤ 9223372036854775807 then (some ((strOfNums y174) ++ a0, 0)) else (none)))
set_option maxHeartbeats 8000000 in
set_option maxRecDepth 100000 in
theorem chantryref03_Const.calls (a0 : ByteArray) (r1 : ByteArray) (r2 : Int) (w : World) (h : chantryref03_Const.f a0 = some (r1, r2)) :
    Calls Try.prog 29 #[.string a0] w fun e w' => e = .returned (.tuple #[.string r1, .int .i64 r2]) ∧ Below w.heap.size w w' := by
  have HB := Aside0.mk (Below.refl w.heap.size w)
  have H : (if (a0.size : Int) > 40 then (some ((⟨#[]⟩ : ByteArray), 3)) else ((some (([99, ((a0.size : Int)) % 256] : List Int) : List Int)).bind fun y174 => (if (strOfNums y174).size + a0.size ≤ 9223372036854775807 then (some ((strOfNums y174) ++ a0, 0)) else (none)))) = some (r1, r2) := h
  clear h
  by_cases c2 : (a0.size : Int) > 40
  · rw [if_pos c2] at H
    have c2b0 : decide (40 < (a0.size : Int)) = true := decide_eq_true c2
    have c2b1 : decide (40 < a0.size) = true := decide_eq_true (by omega)
    clear c2
    simp only [Option.some.injEq, Prod.mk.injEq] at H
    obtain ⟨rfl, rfl⟩ := H
    go_enter Try.func29, Try.ntmps29
    go_wp2
    go_ret2
    exact ⟨by first | rfl | (simp [errW_none, errW_some] <;> rfl) | (simp [*, errW_none, errW_some] <;> rfl), by repeat (first | (with_reducible first | exact HB.out | apply below_alloc | apply pw_below_drewN | apply below_drew1) | exact HB.out)⟩
  · rw [if_neg c2] at H
    have c2b0 : decide (40 < (a0.size : Int)) = false := decide_eq_false c2
    have c2b1 : decide (40 < a0.size) = false := decide_eq_false (by omega)
    clear c2
    obtain ⟨y174, hy174⟩ : ∃ y_ : List Int, y_ = (([99, ((a0.size : Int)) % 256] : List Int)) := ⟨_, rfl⟩
    replace H : (if (strOfNums y174).size + a0.size ≤ 9223372036854775807 then (some ((strOfNums y174) ++ a0, 0)) else (none)) = some (r1, r2) := by first | (rw [hy174]; with_reducible exact H) | (have H2_ := (Option.bind_some _ _).symm.trans H; rw [hy174]; with_reducible exact H2_) | (have H2_ := (Option.bind_some _ _).symm.trans H; with_reducible exact H2_) | with_reducible exact H | (rw [hy174]; exact H) | exact H
    have Ny174 := Aside0.mk hy174
    clear hy174
    by_cases c3 : (strOfNums y174).size + a0.size ≤ 9223372036854775807
    · rw [if_pos c3] at H
      have c3b0 := eq_true c3
      have c3b1 : decide ((strOfNums y174).size + a0.size ≤ 9223372036854775807) = true := decide_eq_true c3
      try have c3b2 : (9223372036854775807 < (strOfNums y174).size + a0.size) = False := eq_false (Nat.not_lt.2 c3)
      simp only [Option.some.injEq, Prod.mk.injEq] at H
      obtain ⟨rfl, rfl⟩ := H
      go_enter Try.func29, Try.ntmps29
      go_wp2_with (first | ((with_reducible refine gate_dst (N := 10) rfl ?_); refine Kd.R_lit (Kd.int .u8) _ 5 ?hg (N := 10) ?hd (xs := ([99, ((a0.size : Int)) % 256] : List Int)) (inner := [.int .u8 99, .int .u8 (((a0.size : Int)) % 256)]) (ok := fun _ => True) (okp := fun _ => True) ?hr ?hp (fun _ hk => hk) trivial (Below.refl _ _) (Nat.le_refl _) (by simp) ?_; (case hd => rfl); (case hg => rfl); (case hr => first | (go_simp; done) | (go_simp; rfl)); (case hp => exact (Reps.one (show Kd.M (Kd.int .u8) _ _ _ 99 [.int .u8 99] from rfl) (Reps.one (show Kd.M (Kd.int .u8) _ _ _ (((a0.size : Int)) % 256) [.int .u8 (((a0.size : Int)) % 256)] from rfl) (Reps.none _ _)))); intro v175 w4 ho5 hb hg_ hnew_; clear hg_ hnew_; (first | rw [← Ny174.out] at ho5 | (simp only [Int.reduceToNat] at ho5; rw [← Ny174.out] at ho5)); have n0_ := Aside0.mk (Kd.R_lower ho5 (below_size (by repeat (first | (with_reducible first | exact HB.out | apply below_alloc | apply pw_below_drewN | apply below_drew1) | exact HB.out)))); have n1_ := Aside0.mk (below_step (by repeat (first | (with_reducible first | exact HB.out | apply below_alloc | apply pw_below_drewN | apply below_drew1) | exact HB.out)) hb); clear HB; have HO176 := n0_; have HB := n1_; clear n0_ n1_; clear hb ho5; have hcv6 := own_string (P := Try.prog) Try.underlying24 Try.underlying5 Try.underlying22 (Kd.own_of_R HO176.out)))
      go_ret2
      exact ⟨by first | rfl | (simp [errW_none, errW_some] <;> rfl) | (simp [*, errW_none, errW_some] <;> rfl), by repeat (first | (with_reducible first | exact HB.out | apply below_alloc | apply pw_below_drewN | apply below_drew1) | exact HB.out)⟩
    · rw [if_neg c3] at H
      exact absurd H (by simp)

/-! ### chantryref03_need: function 37 -/
def chantryref03_need.j0 : Nat → Int → Bool → Option (Int)
  | 0, _, _ => none
  | k + 1, x3, x4 => if x4 = true then (some 0) else (if x3 = 104 then (some 1) else (if x3 = 100 then (some 2) else (if x3 = 109 then (some 2) else (if x3 = 115 then (some 2) else (if x3 = 112 then (some 2) else (some (-1)))))))
def chantryref03_need.f (k : Nat) (a0 : Int) : Option (Int) := if a0 = 110 then (chantryref03_need.j0 k a0 (a0 == 110)) else (chantryref03_need.j0 k a0 (a0 == 99))
theorem chantryref03_need.mono_l : ∀ k, (∀ y0 y1, LeO (chantryref03_need.j0 k y0 y1) (chantryref03_need.j0 (k + 1) y0 y1))
  | 0 => fun _ _ r h => by simp [chantryref03_need.j0] at h
  | k + 1 => by
    have ih0 := chantryref03_need.mono_l k
    · intro y0 y1
      unfold chantryref03_need.j0
      repeat' first
      | (with_reducible exact ih0 _ _)
      | (with_reducible exact LeO.refl _)
      | (with_reducible exact LeO.none _)
      | (with_reducible refine LeO.ite ?_ ?_)
      | (with_reducible refine LeO.bind ?_ (fun _ => ?_))
      | exact ih0 _ _
      | exact LeO.none _
      | refine LeO.ite ?_ ?_
      | refine LeO.bind ?_ (fun _ => ?_)
theorem chantryref03_need.mono : ∀ a0 k, LeO (chantryref03_need.f k a0) (chantryref03_need.f (k + 1) a0) := by
  intro a0 k
  have ih0 := chantryref03_need.mono_l k
  unfold chantryref03_need.f
  repeat' first
      | (with_reducible exact ih0 _ _)
      | (with_reducible exact LeO.refl _)
      | (with_reducible exact LeO.none _)
      | (with_reducible refine LeO.ite ?_ ?_)
      | (with_reducible refine LeO.bind ?_ (fun _ => ?_))
      | exact ih0 _ _
      | exact LeO.none _
      | refine LeO.ite ?_ ?_
      | refine LeO.bind ?_ (fun _ => ?_)
set_option maxHeartbeats 8000000 in
set_option maxRecDepth 100000 in
theorem chantryref03_need.calls (k : Nat) (a0 : Int) (r : Int) (w : World) (h : chantryref03_need.f k a0 = some r) :
    Calls Try.prog 37 #[.int .u8 a0] w fun e w' => e = .returned (.int .i64 r) ∧ Drawn0 w w' := by
  have H : (if a0 = 110 then (chantryref03_need.j0 k a0 (a0 == 110)) else (chantryref03_need.j0 k a0 (a0 == 99))) = some r := h
  clear h
  have HC2 := Aside0.mk H
  clear H
  go_enter Try.func37, Try.ntmps37
  go_upto_if 4 with (fail)
  go_cut [4] (fun v4 wc => ∃ (kq : Nat) (x4_1 : Bool), v4 = .bool x4_1 ∧ Aside0 (chantryref03_need.j0 kq a0 x4_1 = some r) ∧ Aside0 (kq ≤ k) ∧ Drawn0 w wc)
  case first =>
    have H := HC2.out
    clear HC2
    by_cases c3 : a0 = 110
    · rw [if_pos c3] at H
      have c3b0 : (a0 == 110) = true := beq_iff_eq.mpr c3
      have c3b1 : (a0 != 110) = false := bne_eq_false_iff_eq.mpr c3
      clear c3
      (first | rw [c3b0] | (simp only [i64_w, i32_w]; rw [c3b0]) | skip)
      have H' := Aside0.mk H
      clear H
      go_wp2
      go_meet
      case rel => exact ⟨_, ((a0 == 110)), (by first | rfl | (simp; done) | (simp [*]; done)), H', ⟨by first | omega | exact Nat.le_refl _⟩, by repeat (first | exact Drawn0.refl _ | apply Drawn0.step)⟩
    · rw [if_neg c3] at H
      have c3b0 : (a0 == 110) = false := beq_eq_false_iff_ne.mpr c3
      have c3b1 : (a0 != 110) = true := bne_iff_ne.mpr c3
      (first | rw [c3b0] | (simp only [i64_w, i32_w]; rw [c3b0]) | skip)
      have H' := Aside0.mk H
      clear H
      go_wp2
      go_meet
      case rel => exact ⟨_, ((a0 == 99)), (by first | rfl | (simp; done) | (simp [*]; done)), H', ⟨by first | omega | exact Nat.le_refl _⟩, by repeat (first | exact Drawn0.refl _ | apply Drawn0.step)⟩
  case rest =>
    clear HC2
    try clear p2
    try clear c3
    try clear c3b0
    try clear c3b1
    obtain ⟨kq, x4_1, rfl, HA, HJ1, ⟨mc1, rfl⟩⟩ := hcut
    cases kq with
    | zero => exact absurd HA.out (by simp [chantryref03_need.j0])
    | succ kj1 =>
      have H := HA.out
      clear HA
      simp only [chantryref03_need.j0] at H
      by_cases c4 : x4_1 = true
      · subst c4
        have H1 : (some 0) = some r := by rw [if_pos rfl] at H; exact H
        clear H
        have H := H1
        clear H1
        obtain rfl := Option.some.inj H
        go_wp2
        go_ret
        exact ⟨by first | rfl | (simp; done) | (simp [*]; done), by repeat (first | exact Drawn0.refl _ | apply Drawn0.step)⟩
      · replace c4 := Bool.eq_false_iff.mpr c4
        subst c4
        have H1 : (if a0 = 104 then (some 1) else (if a0 = 100 then (some 2) else (if a0 = 109 then (some 2) else (if a0 = 115 then (some 2) else (if a0 = 112 then (some 2) else (some (-1))))))) = some r := by rw [if_neg (show ¬ (false = true) by decide)] at H; exact H
        clear H
        have H := H1
        clear H1
        by_cases c5 : a0 = 104
        · rw [if_pos c5] at H
          have c5b0 : (a0 == 104) = true := beq_iff_eq.mpr c5
          have c5b1 : (a0 != 104) = false := bne_eq_false_iff_eq.mpr c5
          clear c5
          obtain rfl := Option.some.inj H
          go_wp2
          go_ret
          exact ⟨by first | rfl | (simp; done) | (simp [*]; done), by repeat (first | exact Drawn0.refl _ | apply Drawn0.step)⟩
        · rw [if_neg c5] at H
          have c5b0 : (a0 == 104) = false := beq_eq_false_iff_ne.mpr c5
          have c5b1 : (a0 != 104) = true := bne_iff_ne.mpr c5
          by_cases c6 : a0 = 100
          · rw [if_pos c6] at H
            have c6b0 : (a0 == 100) = true := beq_iff_eq.mpr c6
            have c6b1 : (a0 != 100) = false := bne_eq_false_iff_eq.mpr c6
            clear c6
            obtain rfl := Option.some.inj H
            go_wp2
            go_ret
            exact ⟨by first | rfl | (simp; done) | (simp [*]; done), by repeat (first | exact Drawn0.refl _ | apply Drawn0.step)⟩
          · rw [if_neg c6] at H
            have c6b0 : (a0 == 100) = false := beq_eq_false_iff_ne.mpr c6
            have c6b1 : (a0 != 100) = true := bne_iff_ne.mpr c6
            by_cases c7 : a0 = 109
            · rw [if_pos c7] at H
              have c7b0 : (a0 == 109) = true := beq_iff_eq.mpr c7
              have c7b1 : (a0 != 109) = false := bne_eq_false_iff_eq.mpr c7
              clear c7
              obtain rfl := Option.some.inj H
              go_wp2
              go_ret
              exact ⟨by first | rfl | (simp; done) | (simp [*]; done), by repeat (first | exact Drawn0.refl _ | apply Drawn0.step)⟩
            · rw [if_neg c7] at H
              have c7b0 : (a0 == 109) = false := beq_eq_false_iff_ne.mpr c7
              have c7b1 : (a0 != 109) = true := bne_iff_ne.mpr c7
              by_cases c8 : a0 = 115
              · rw [if_pos c8] at H
                have c8b0 : (a0 == 115) = true := beq_iff_eq.mpr c8
                have c8b1 : (a0 != 115) = false := bne_eq_false_iff_eq.mpr c8
                clear c8
                obtain rfl := Option.some.inj H
                go_wp2
                go_ret
                exact ⟨by first | rfl | (simp; done) | (simp [*]; done), by repeat (first | exact Drawn0.refl _ | apply Drawn0.step)⟩
              · rw [if_neg c8] at H
                have c8b0 : (a0 == 115) = false := beq_eq_false_iff_ne.mpr c8
                have c8b1 : (a0 != 115) = true := bne_iff_ne.mpr c8
                by_cases c9 : a0 = 112
                · rw [if_pos c9] at H
                  have c9b0 : (a0 == 112) = true := beq_iff_eq.mpr c9
                  have c9b1 : (a0 != 112) = false := bne_eq_false_iff_eq.mpr c9
                  clear c9
                  obtain rfl := Option.some.inj H
                  go_wp2
                  go_ret
                  exact ⟨by first | rfl | (simp; done) | (simp [*]; done), by repeat (first | exact Drawn0.refl _ | apply Drawn0.step)⟩
                · rw [if_neg c9] at H
                  have c9b0 : (a0 == 112) = false := beq_eq_false_iff_ne.mpr c9
                  have c9b1 : (a0 != 112) = true := bne_iff_ne.mpr c9
                  obtain rfl := Option.some.inj H
                  go_wp2
                  go_ret
                  exact ⟨by first | rfl | (simp; done) | (simp [*]; done), by repeat (first | exact Drawn0.refl _ | apply Drawn0.step)⟩

end Go.Proofs.Ytimfhdpgkoonaaa.Pr
