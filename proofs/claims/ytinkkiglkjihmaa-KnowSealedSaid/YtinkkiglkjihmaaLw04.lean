/- What can be come to: laws of it. Plain Lean. -/
import Derived.Test.YtinkkiglkjihmaaEv04
set_option linter.unusedVariables false
set_option linter.unusedSimpArgs false
namespace Go.Proofs.Ytinkkiglkjihmaa.Ev04
open Go.RowKit Go.Proofs.Ytinkkiglkjihmaa.Pr Go.Proofs.YtinkkiglkjihmaaW.PrintWords Go.Proofs.YtinkkiglkjihmaaW.PrintLast Go.Proofs.YtinkkiglkjihmaaW.PrintMore Go.Proofs.Ytinkkiglkjihmaa.TT Go.Proofs.Ytinkkiglkjihmaa.Ev03 Go.Proofs.Ytinkkiglkjihmaa.Kw

/-- Who has more can come to no less; what is known leads to nothing more. -/
theorem dv_trans {l m : List ByteArray} (h : ∀ s ∈ l, Dv m s) {t : ByteArray} (d : Dv l t) : Dv m t := by
  induction d with
  | mem hm => exact h _ hm
  | const h1 h2 => exact .const h1 h2
  | built h1 h2 _ ih => exact .built h1 h2 ih
  | pair _ hk hp ih => exact ih.pair hk hp
  | opn _ hk hp _ ih1 ih2 => exact ih1.opn hk hp ih2
theorem dv_congr {l m : List ByteArray} (h : ∀ x, x ∈ l ↔ x ∈ m) (t : ByteArray) : Dv l t ↔ Dv m t :=
  ⟨dv_trans fun s hs => .mem ((h s).1 hs), dv_trans fun s hs => .mem ((h s).2 hs)⟩
theorem der_ok {l : List ByteArray} {g : ByteArray} (hl : checkL l = 0) (hg : check g = 0) : know_Derives.f l g = some (dvB l g, 0) := by
  obtain ⟨hn, he⟩ := checkL_ok.1 hl
  unfold know_Derives.f derOf
  rw [if_neg (by omega), if_pos he, if_pos hg]
theorem known_ok {l : List ByteArray} (hl : checkL l = 0) : know_Known.f l = some (knL l, 0) := by
  obtain ⟨hn, he⟩ := checkL_ok.1 hl
  unfold know_Known.f knownOf
  rw [if_neg (by omega), if_pos he]
theorem dvL {l : List ByteArray} {g : ByteArray} (hl : checkL l = 0) (hg : check g = 0) : dvB l g = true ↔ Dv l g := by
  obtain ⟨hn, he⟩ := checkL_ok.1 hl
  exact dvB_iff hn he hg
theorem dvL_eq {l m : List ByteArray} {g h : ByteArray} (hl : checkL l = 0) (hm : checkL m = 0) (hg : check g = 0) (hh : check h = 0) (e : Dv l g ↔ Dv m h) : dvB l g = dvB m h := by
  rw [Bool.eq_iff_iff, dvL hl hg, dvL hm hh, e]
theorem ck_of {l : List ByteArray} (h : checkL l = 0) : l.length ≤ 200 ∧ ∀ s ∈ l, check s = 0 := by
  obtain ⟨hn, he⟩ := checkL_ok.1 h
  exact ⟨hn, errOf_ok.1 he⟩
theorem checkL_of {l : List ByteArray} (hn : l.length ≤ 200) (hv : ∀ s ∈ l, check s = 0) : checkL l = 0 := checkL_ok.2 ⟨hn, errOf_ok.2 hv⟩
theorem knL_in {l : List ByteArray} (hl : checkL l = 0) (x : ByteArray) : x ∈ knL l ↔ (∃ t ∈ l, x ∈ (subsOf t).1) ∧ Dv l x := by
  obtain ⟨hn, he⟩ := checkL_ok.1 hl
  exact knL_mem hn he x
theorem knL_small {l : List ByteArray} (hl : checkL l = 0) (n : Nat) (hn : l.length ≤ n) : (knL l).length ≤ 2000 * n := by
  obtain ⟨_, hv⟩ := ck_of hl
  have h1 := all_len l [] hv
  have h2 := nodup_len (knL l) (allL l []) (rises_nodup (knL_rises l)) (fun x hx => (all_mem x l []).2 (.inr ((knL_in hl x).1 hx).1))
  simp at h1
  omega
theorem knL_congr {l m : List ByteArray} (hl : checkL l = 0) (hm : checkL m = 0) (h : ∀ x, x ∈ l ↔ x ∈ m) : knL l = knL m := by
  refine rises_ext (knL_rises l) (knL_rises m) (fun x => ?_)
  rw [knL_in hl, knL_in hm, dv_congr h]
  constructor
  · rintro ⟨⟨t, h1, h2⟩, h3⟩; exact ⟨⟨t, (h t).1 h1, h2⟩, h3⟩
  · rintro ⟨⟨t, h1, h2⟩, h3⟩; exact ⟨⟨t, (h t).2 h1, h2⟩, h3⟩
/-- The subs of a text, by its parts. -/
theorem subs_in_parts {t x : ByteArray} (h : check t = 0) : x ∈ (subsOf t).1 ↔ x = t ∨ ∃ p ∈ ps t, x ∈ (subsOf p).1 := by
  obtain ⟨u, h1, rfl, h3, h4⟩ := (check_iff t).1 h
  have hp : ps u.str = u.parts.map Tm.str := PFg_str h1 h3 h4
  rw [subsOf_str h1 h3 h4, hp]
  obtain ⟨r, hr, hr2⟩ := u.subs_eq
  rw [hr, hr2]
  simp only [List.map_cons, List.mem_cons, List.mem_map, List.mem_flatten]
  have hsp : ∀ v ∈ u.parts, (subsOf v.str).1 = v.subs.map Tm.str := fun v hv => by
    obtain ⟨k1, k2, k3⟩ := subs_ok u v (parts_subs hv) h1
    rw [subsOf_str k1 (by omega) (by omega)]
  constructor
  · rintro (rfl | ⟨y, ⟨m, ⟨v, hv, rfl⟩, hy⟩, rfl⟩)
    · exact .inl rfl
    · exact .inr ⟨v.str, ⟨v, hv, rfl⟩, by rw [hsp v hv]; exact List.mem_map.2 ⟨y, hy, rfl⟩⟩
  · rintro (rfl | ⟨p, ⟨v, hv, rfl⟩, hx⟩)
    · exact .inl rfl
    · rw [hsp v hv] at hx
      obtain ⟨y, hy, rfl⟩ := List.mem_map.1 hx
      exact .inr ⟨y, ⟨v.subs, ⟨v, hv, rfl⟩, hy⟩, rfl⟩
/-- One can come to nothing that has a text in it to which one can't come by making, and which is in none of what one has. -/
theorem dv_free {l : List ByteArray} (hl : ∀ s ∈ l, check s = 0) {n : ByteArray} (hn : ∀ s ∈ l, n ∉ (subsOf s).1) (hc : b0 n ≠ 99) (hb : ps n ≠ [] → ∃ p ∈ ps n, ¬ Dv l p) {t : ByteArray} (d : Dv l t) : n ∉ (subsOf t).1 := by
  have up : ∀ {s p : ByteArray}, check s = 0 → p ∈ ps s → n ∉ (subsOf s).1 → n ∉ (subsOf p).1 := fun hs hp h hx => h ((subs_in_parts hs).2 (.inr ⟨_, hp, hx⟩))
  induction d with
  | mem hm => exact hn _ hm
  | const h1 h2 =>
    intro hx
    rcases (subs_in_parts h1).1 hx with rfl | ⟨p, hp, _⟩
    · exact hc h2
    · rw [const_ps h1 h2] at hp; cases hp
  | built h1 h2 h3 ih =>
    intro hx
    rcases (subs_in_parts h1).1 hx with rfl | ⟨p, hp, hx⟩
    · obtain ⟨p, hp, hnp⟩ := hb h2
      exact hnp (h3 p hp)
    · exact ih p hp hx
  | pair hd hk hp ih => exact up (hd.check hl) hp ih
  | opn hd hk hp _ ih _ => exact up (hd.check hl) (by rw [hp]; simp) ih
/-- What is made of two. -/
theorem two_facts {c : UInt8} (hc : isTwo c = true) {a b : ByteArray} (ha : check a = 0) (hb : check b = 0) (ht : check (TT.strOf (c :: (a.data.toList ++ b.data.toList))) = 0) :
    b0 (TT.strOf (c :: (a.data.toList ++ b.data.toList))) = c ∧ ps (TT.strOf (c :: (a.data.toList ++ b.data.toList))) = [a, b] := by
  obtain ⟨u, h1, rfl, h3, h4⟩ := (check_iff a).1 ha
  obtain ⟨v, k1, rfl, k3, k4⟩ := (check_iff b).1 hb
  have e : TT.strOf (c :: (u.str.data.toList ++ v.str.data.toList)) = (Tm.two c u v).str := by
    have h1 : u.str.data.toList = u.enc := by rw [Tm.str, strOf_data]
    have h2 : v.str.data.toList = v.enc := by rw [Tm.str, strOf_data]
    rw [h1, h2]
    rfl
  have ok : (Tm.two c u v).ok := ⟨hc, h1, k1⟩
  rw [e] at ht ⊢
  obtain ⟨w, hr, hok, hw, hd, hlen⟩ := check_ok ht
  have : w = Tm.two c u v := enc_inj hok ok (strOf_inj hw.symm)
  subst this
  refine ⟨b0_str _, ?_⟩
  exact PFg_str hok hd hlen
theorem make_two {c : UInt8} (hc : ar c = 2) {a b : ByteArray} (ha : check a = 0) (hb : check b = 0) : makeOf c [a, b] = if check (TT.strOf (c :: (a.data.toList ++ b.data.toList))) = 0 then (TT.strOf (c :: (a.data.toList ++ b.data.toList)), 0) else (⟨#[]⟩, 3) := by
  by_cases h : check (TT.strOf (c :: (a.data.toList ++ b.data.toList))) = 0
  · rw [if_pos h]; exact Rdr.make_two_ok hc ha hb h
  · rw [if_neg h]; exact Rdr.make_two_big hc ha hb h
theorem dv_two {l : List ByteArray} {c : UInt8} (hc : isTwo c = true) {a b : ByteArray} (ha : check a = 0) (hb : check b = 0) (ht : check (TT.strOf (c :: (a.data.toList ++ b.data.toList))) = 0) (da : Dv l a) (db : Dv l b) : Dv l (TT.strOf (c :: (a.data.toList ++ b.data.toList))) := by
  obtain ⟨_, h2⟩ := two_facts hc ha hb ht
  exact .built ht (by rw [h2]; simp) (fun p hp => by rw [h2] at hp; rcases List.mem_cons.1 hp with rfl | hp; exact da; rw [List.mem_singleton.1 hp]; exact db)
end Go.Proofs.Ytinkkiglkjihmaa.Ev04
