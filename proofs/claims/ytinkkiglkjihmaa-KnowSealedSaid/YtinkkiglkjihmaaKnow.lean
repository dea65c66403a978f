/- know.Known and know.Derives: their contracts, as the print tells contracts. -/
import Derived.Test.YtinkkiglkjihmaaKy
set_option linter.unusedVariables false
set_option linter.unusedSimpArgs false
set_option maxRecDepth 100000
namespace Go.Proofs.Ytinkkiglkjihmaa.Kw
open Go.RowKit Go.Maps Go.WideMaps Go.Proofs.YtinkkiglkjihmaaW.PrintWords Go.Proofs.YtinkkiglkjihmaaW.PrintWords.Kd
open TT (check subsOf)

theorem one_nodup {a : Lk} (h : a.U.Nodup) (s : ByteArray) : (a.one s).U.Nodup := by
  unfold Lk.one
  split
  · exact h
  · rename_i hn
    rw [List.nodup_append]
    exact ⟨h, by simp, fun x hx y hy => by rw [List.mem_singleton.1 hy]; rintro rfl; exact hn hx⟩
theorem look_nodup (m : List ByteArray) {a : Lk} (h : a.U.Nodup) : (a.look m).U.Nodup := by
  induction m generalizing a with
  | nil => exact h
  | cons s m ih => exact ih (one_nodup h s)
theorem adds_nodup (m : List ByteArray) {a : Lk} (h : a.U.Nodup) : (m.foldl Lk.addT a).U.Nodup := by
  induction m generalizing a with
  | nil => exact h
  | cons s m ih => exact ih (a := a.addT s) (look_nodup _ h)
theorem gets_U (m : List ByteArray) (a : Lk) : (m.foldl Lk.getT a).U = a.U := by
  induction m generalizing a with
  | nil => rfl
  | cons s m ih => exact ih (a.getT s)
theorem opened_nodup (l : List ByteArray) : (Lk.opened l).U.Nodup := by
  unfold Lk.opened
  rw [gets_U]
  exact adds_nodup l List.nodup_nil
/-- The known ones' bytes, in no order. -/
def knKeys (l : List ByteArray) : List (List UInt8) := ((Lk.opened l).U.filter ((Lk.opened l).last.has)).map fun s => s.data.toList
def knL (l : List ByteArray) : List ByteArray := ((knKeys l).mergeSort leB).map TT.strOf
/-- What 'Known' answers. -/
def knownOf (l : List ByteArray) : List ByteArray × Int := if l.length > 200 then ([], 3) else if errOf l = 0 then (knL l, 0) else ([], errOf l)
theorem knKeys_nodup (l : List ByteArray) : (knKeys l).Nodup := by
  unfold knKeys
  refine List.pairwise_map.2 (((opened_nodup l).filter _).imp ?_)
  intro a b h e
  exact h (data_inj e)
theorem knKeys_mem {l : List ByteArray} (hn : l.length ≤ 200) (he : errOf l = 0) (s : ByteArray) : s.data.toList ∈ knKeys l ↔ (∃ t ∈ l, s ∈ (subsOf t).1) ∧ Dv l s := by
  have hop := opened_ok hn he
  unfold knKeys
  rw [List.mem_map]
  constructor
  · rintro ⟨x, hx, e⟩
    obtain rfl := data_inj e
    rw [List.mem_filter] at hx
    exact ⟨(hop.U x).1 hx.1, (hop.last x hx.1).1 hx.2⟩
  · rintro ⟨h1, h2⟩
    have hU := (hop.U s).2 h1
    exact ⟨s, by rw [List.mem_filter]; exact ⟨hU, (hop.last s hU).2 h2⟩, rfl⟩
theorem knL_len (l : List ByteArray) : (knL l).length = (knKeys l).length := by unfold knL; rw [List.length_map, List.length_mergeSort]
def KnEnd (l : List ByteArray) (b : Nat) (e : Ending) (w' : World) : Prop := ∃ v : Value, e = .returned (.tuple #[v, .int .i64 (knownOf l).2]) ∧ Kd.R Kd.string 23 w' b (fun _ => True) v (knownOf l).1
set_option maxHeartbeats 1000000 in
theorem known_any (A : Option Addr) (c : Nat) (l : List ByteArray) (w : World) (hr : Kd.C Kd.string w A l.length l) (hc : l.length ≤ c) :
    Calls Try.prog 13 #[.slice A l.length c] w fun e w' => KnEnd l w.heap.size e w' ∧ RowKit.Below w.heap.size w w' := by
  have ho := opened_any A c l w hr hc
  by_cases h1 : l.length > 200
  · have hd : knownOf l = ([], 3) := by unfold knownOf; rw [if_pos h1]
    have HD := Lib.hid hd
    have HL := Lib.hid h1
    clear hd hr hc h1
    go_enter Try.func13, Try.ntmps13
    go_wp2_with (go_at_call 25; refine ho.mono ?_; clear ho; rintro e w1 ⟨hb, he⟩; (unfold OpenEnd at he); (rw [if_pos HL.out] at he); subst he; have HB := Lib.hid hb; clear hb)
    go_ret2
    exact ⟨⟨_, by rw [HD.out]; rfl, by rw [HD.out]; exact Kd.R_nil _ _ _ _ _⟩, HB.out⟩
  by_cases h2 : errOf l = 0
  · have hop := opened_ok (by omega) h2
    have hd : knownOf l = (knL l, 0) := by unfold knownOf; rw [if_neg h1, if_pos h2]
    have HL := Lib.hid h1; have HE := Lib.hid h2; have HD := Lib.hid hd; have HOP := Lib.hid hop
    clear hr hc hd hop h1 h2
    go_enter Try.func13, Try.ntmps13
    go_wp2_with (go_at_call 25; refine ho.mono ?_; clear ho; rintro e w1 ⟨hb, he⟩; (unfold OpenEnd at he); (rw [if_neg HL.out, if_pos HE.out] at he); obtain ⟨wb, bh, bm, bi, rfl, hk⟩ := he; have HB := Lib.hid hb; have HRN := Lib.hid (run_in hk HOP.out); clear hb hk)
    have hrn := HRN.out
    clear HRN
    go_wp2_with (go_at_call 26; refine hrn.mono ?_; clear hrn; rintro e w3 ⟨rfl, hb, σ, ⟨M, I, ⟨hbs, tv, own, ks⟩, _, _⟩, hiff, hsub, hN⟩; have HB3 := Lib.hid (HB.out.trans hb); have HKS := Lib.hid (keys_sorted bh σ.N σ.H w3 ks.h (by omega) (knKeys l) (knKeys_nodup l) (by
      intro k
      unfold knKeys
      rw [List.mem_map]
      constructor
      · rintro ⟨s, hs, rfl⟩
        rw [List.mem_filter] at hs
        exact (hiff s hs.1).2 ((HOP.out.last s hs.1).1 hs.2)
      · intro hk
        have hk2 : σ.has (TT.strOf k) = true := by unfold St.has; rw [TT.strOf_data]; exact hk
        have hU := hsub _ hk2
        exact ⟨TT.strOf k, by rw [List.mem_filter]; exact ⟨hU, (HOP.out.last _ hU).2 ((hiff _ hU).1 hk2)⟩, TT.strOf_data k⟩)); obtain ⟨c0, c1, c2, c3⟩ := ks.st.cell; have HBS := Lib.hid hbs; clear hb ks hiff hsub hN c1 c2 c3 hbs)
    obtain ⟨hk1, hk2⟩ := HKS.out
    clear HKS
    go_wp2_with (first | (go_at_call 28; refine hk1.mono ?_; clear hk1; rintro e w4 ⟨rfl, rfl⟩) | (go_at_call 27; refine hk2.mono ?_; clear hk2; rintro e w5 ⟨v, rfl, hrow, hb⟩; have HB5 := Lib.hid hb; have HROW := Lib.hid hrow; clear hb hrow))
    go_ret2
    have hle : w.heap.size ≤ w3.heap.size := HBS.out
    refine ⟨⟨v, by rw [HD.out]; rfl, ?_⟩, HB3.out.trans (HB5.out.mono hle)⟩
    rw [HD.out]
    refine Kd.R_lower (Rdr.R_of_own (l := knL l) ?_) hle
    have e1 : ((knKeys l).mergeSort leB).map encStr = (knL l).map Value.string := by
      unfold knL
      rw [List.map_map]
      rfl
    have e2 : ((knKeys l).mergeSort leB).length = (knL l).length := by unfold knL; rw [List.length_map]
    rw [← e1, ← e2]
    exact HROW.out
  · have hd : knownOf l = ([], errOf l) := by unfold knownOf; rw [if_neg h1, if_neg h2]
    have hne : (errOf l != 0) = true := bne_iff_ne.mpr h2
    have HD := Lib.hid hd; have HL := Lib.hid h1; have HE := Lib.hid h2
    clear hd hr hc h1 h2
    generalize hcs : errOf l = cs at hne HD
    have HCS := Lib.hid hcs
    clear hcs
    go_enter Try.func13, Try.ntmps13
    go_wp2_with (go_at_call 25; refine ho.mono ?_; clear ho; rintro e w1 ⟨hb, he⟩; (unfold OpenEnd at he); (rw [if_neg HL.out, if_neg HE.out, HCS.out] at he); subst he; have HB := Lib.hid hb; clear hb)
    go_ret2
    exact ⟨⟨_, by rw [HD.out]; rfl, by rw [HD.out]; exact Kd.R_nil _ _ _ _ _⟩, HB.out⟩
end Kw
open Kw Go.RowKit Go.Proofs.YtinkkiglkjihmaaW.PrintWords
/-- What the program's 'Derives' and 'Known' answer, told as the print tells functions. -/
def know_Derives.f (l0 : List ByteArray) (a1 : ByteArray) : Option (Bool × Int) := some (derOf l0 a1)
theorem know_Derives.calls (A0 : Option Addr) (c0 : Nat) (l0 : List ByteArray) (a1 : ByteArray) (r1 : Bool) (r2 : Int) (w : World) (hr0 : Kd.C Kd.string w A0 l0.length l0) (hc0 : l0.length ≤ c0) (h : know_Derives.f l0 a1 = some (r1, r2)) :
    Calls Try.prog 15 #[.slice A0 l0.length c0, .string a1] w fun e w' => e = .returned (.tuple #[.bool r1, .int .i64 r2]) ∧ RowKit.Below w.heap.size w w' := by
  have h' := Option.some.inj h
  refine (derives_any A0 c0 l0 a1 w hr0 hc0).mono ?_
  rintro e w' ⟨he, hb⟩
  unfold DerEnd at he
  rw [h'] at he
  exact ⟨he, hb⟩
def know_Known.f (l0 : List ByteArray) : Option (List ByteArray × Int) := some (knownOf l0)
theorem know_Known.calls (A0 : Option Addr) (c0 : Nat) (l0 : List ByteArray) (r1 : List ByteArray) (r2 : Int) (w : World) (hr0 : Kd.C Kd.string w A0 l0.length l0) (hc0 : l0.length ≤ c0) (h : know_Known.f l0 = some (r1, r2)) :
    Calls Try.prog 13 #[.slice A0 l0.length c0] w fun e w' => ∃ v0_ : Value, e = .returned (.tuple #[v0_, .int .i64 r2]) ∧ Kd.R Kd.string 23 w' w.heap.size (fun _ => True) v0_ r1 ∧ RowKit.Below w.heap.size w w' := by
  have h' := Option.some.inj h
  refine (known_any A0 c0 l0 w hr0 hc0).mono ?_
  rintro e w' ⟨⟨v, he, hrow⟩, hb⟩
  rw [h'] at he hrow
  exact ⟨v, he, hrow, hb⟩
end Go.Proofs.Ytinkkiglkjihmaa
