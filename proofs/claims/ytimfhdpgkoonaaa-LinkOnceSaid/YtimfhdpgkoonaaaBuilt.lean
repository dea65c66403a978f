/- link.built: the term of a letter's text. -/
import Derived.Test.YtimfhdpgkoonaaaNewc
import Derived.Test.YtimfhdpgkoonaaaChunk
import Derived.Test.YtimfhdpgkoonaaaBackward
import Derived.RangeFuncBox
import Derived.Below
import Derived.Deep.Draws
import Derived.Deep.AppendLies
import Derived.Maps.AppendAt
import Derived.OwnWalk
import Derived.Laws.BytesArg
import Derived.Laws.MakeOwn
import Derived.Laws.OwnMore
import Derived.Deep.OwnRows
import Derived.Tactics
import Derived.Lib.ConvBytes
import Derived.Laws.Slices
import Derived.WalkKit
import Derived.KernelRfl
import Derived.RowKit3
import Derived.Deep.LoopGhost
import Derived.Deep.QuietTactic
import Derived.BigQuiet
import Derived.WideLaws
import Derived.Deep.DeepCutAuto
import Derived.Deep.CutBlock
import Derived.Deep.RegionHeld3
import Derived.Laws.Rows
import Derived.Lib.AppendStr
import Derived.ArgAppend
import Derived.Laws.IdiomCopy
import Derived.OrdersHeld
import Derived.Laws.BitsLemmas
import Derived.RowKit
import Derived.Test.YtimfhdpgkoonaaaWWords
import Derived.Test.YtimfhdpgkoonaaaWLast
import Derived.Test.YtimfhdpgkoonaaaWTab
import Derived.Test.YtimfhdpgkoonaaaWApart
import Derived.Test.YtimfhdpgkoonaaaWArr
import Derived.Test.YtimfhdpgkoonaaaWFoot
import Derived.Test.YtimfhdpgkoonaaaWKept
import Derived.Test.YtimfhdpgkoonaaaWShare
import Derived.Test.YtimfhdpgkoonaaaWN
import Derived.Test.YtimfhdpgkoonaaaWEqStruct
import Derived.Test.YtimfhdpgkoonaaaWRepsOne
import Derived.Test.YtimfhdpgkoonaaaWInv
import Derived.Test.YtimfhdpgkoonaaaWGuard
import Derived.Test.YtimfhdpgkoonaaaWMore
set_option linter.unusedVariables false
set_option linter.unusedSimpArgs false
namespace Go.Proofs.Ytimfhdpgkoonaaa.Iter
open Go.RowKit Go.Shelf Go.Proofs.YtimfhdpgkoonaaaW.PrintWords Go.Proofs.YtimfhdpgkoonaaaW.PrintLast Go.Proofs.YtimfhdpgkoonaaaW.PrintMore

attribute [local go_sem] Oper.semAt_some

/-- A row of bytes that is not empty, in the world. -/
theorem bytes_shape {w : World} {base : Nat} {ok : Nat → Prop} {v : Value} {xs : List Int} (h : Kd.R (Kd.int .u8) 5 w base ok v xs) (hne : 0 < xs.length) :
    ∃ g cap cur, v = .slice (some ⟨g, 0, none⟩) xs.length cap ∧ base ≤ g ∧ w.heap[g]? = some (.cells cur 5 (0, 0)) ∧ xs.length ≤ cap ∧ cur.toList.take xs.length = xs.map (Value.int .u8) := by
  have ho := Kd.own_of_R h
  rcases ho.2 with ⟨_, h0⟩ | ⟨g, cap, cur, rfl, hb, hg, hc, _, _, ht⟩
  · omega
  · exact ⟨g, cap, cur, rfl, hb, hg, hc, by simpa [encs] using ht⟩
theorem take_at {α : Type} {l r : List α} {n j : Nat} (h : l.take n = r) (hj : j < n) : l[j]? = r[j]? := by
  rw [← h, List.getElem?_take, if_pos hj]

def textOf (a0 a1 a2 : Int) (l3 : List Int) : List Int := ([a0, a1, (a2 / 16777216 % 256), (a2 / 65536 % 256), (a2 / 256 % 256), (a2 % 256)] : List Int) ++ l3
def nP (bs : List Int) : Nat := (bs.length + 39) / 40
def pL (bs : List Int) (k : Nat) : List Int := (bs.drop (40 * k)).take 40
def pc (bs : List Int) (k : Nat) : ByteArray := constB (strOfNums (pL bs k))
def zsOf (bs : List Int) : List ByteArray := (List.range (nP bs)).map (pc bs)
def joinT (z t : ByteArray) : ByteArray := (strOfNums [112] ++ z) ++ t
def foldT (zs : List ByteArray) (js : List Nat) (t0 : ByteArray) : ByteArray := js.foldl (fun t j => joinT (zs.getD j ⟨#[]⟩) t) t0
def builtOf (bs : List Int) : ByteArray := foldT (zsOf bs) (downto (nP bs - 1) (nP bs - 1)) ((zsOf bs).getD (nP bs - 1) ⟨#[]⟩)

theorem strOfNums_size (xs : List Int) : (strOfNums xs).size = xs.length := by simp [strOfNums, ByteArray.size]
theorem constB_size (b : ByteArray) : (constB b).size = b.size + 2 := by
  unfold constB; rw [ByteArray.size_append, strOfNums_size]; simp; omega
theorem pL_len (bs : List Int) (k : Nat) : (pL bs k).length = min 40 (bs.length - 40 * k) := by unfold pL; rw [List.length_take, List.length_drop]
theorem pc_size (bs : List Int) (k : Nat) : (pc bs k).size ≤ 42 := by unfold pc; rw [constB_size, strOfNums_size, pL_len]; omega
theorem zs_size (bs : List Int) (j : Nat) : ((zsOf bs).getD j ⟨#[]⟩).size ≤ 42 := by
  unfold zsOf
  rw [List.getD_eq_getElem?_getD, List.getElem?_map]
  by_cases h : j < nP bs
  · rw [List.getElem?_range h]; exact pc_size bs j
  · rw [List.getElem?_eq_none (by simp; omega)]; exact Nat.zero_le _
theorem joinT_size (z t : ByteArray) : (joinT z t).size = 1 + z.size + t.size := by
  unfold joinT; rw [ByteArray.size_append, ByteArray.size_append, strOfNums_size]; rfl
theorem foldT_size (bs : List Int) (js : List Nat) : ∀ t0 : ByteArray, (foldT (zsOf bs) js t0).size ≤ t0.size + 43 * js.length := by
  induction js with
  | nil => intro t0; simp [foldT]
  | cons j js ih =>
    intro t0
    have := ih (joinT ((zsOf bs).getD j ⟨#[]⟩) t0)
    have hz := zs_size bs j
    rw [joinT_size] at this
    simp only [foldT, List.foldl_cons, List.length_cons] at this ⊢
    omega
theorem foldT_snoc (zs : List ByteArray) (js : List Nat) (j : Nat) (t0 : ByteArray) : foldT zs (js ++ [j]) t0 = joinT (zs.getD j ⟨#[]⟩) (foldT zs js t0) := by
  simp [foldT]

theorem abidesDrew {β : Type} {B : Nat} {J : β → World → Prop} (h : AbidesFrom B J) (s : β) (W : World) (hs : J s W) : J s W.drew :=
  h s W W.drew none hs (by first | exact Lib.grownBy_drew (World.grownBy_refl _ _) | exact grownBy_drew (World.grownBy_refl _ _) | exact ⟨rfl, rfl, rfl, Nat.le_refl _, fun _ _ _ => rfl⟩) (fun _ e => by cases e)

theorem chunk_stops (F : Fence) (n : Nat) (h7 : F.fn 49) (hro : F.round = none) (hn : 1 ≤ n) (Bs Bn g len cap : Nat) (hlen : len ≤ 100000) (hcap : len ≤ cap) (w : World) (hBsl : Bs < w.heap.size) (hBnl : Bn < w.heap.size)
    (hBs : w.heap[Bs]? = some (.cells #[.slice (some ⟨g, 0, none⟩) len cap] 24 (0, 0))) (hBn : w.heap[Bn]? = some (.cells #[.int .i64 40] 3 (0, 0))) :
    SeqStopsK F n Try.prog 49 #[.pointer (some ⟨Bs, 0, none⟩), .pointer (some ⟨Bn, 0, none⟩)] (fun x : Ck len => #[ckV g len x.1]) (Kp2 Bs Bn)
      (fun ys => ys.map (·.1) = List.range ((len + 39) / 40)) (fun _ => True) len w := fun l J Jx W hW hJ _ hY h0 => by
  refine (chunk1_in F n h7 hro hn l Bs Bn g len cap hlen hcap J Jx (fun pre W' h => abidesDrew hJ pre W' h) hY W ((hW.block Bs hBsl).trans hBs) ((hW.block Bn hBnl).trans hBn) h0).mono ?_
  rintro e W' ⟨he, ⟨ys, hy, hj⟩ | ⟨pre, hj⟩⟩
  · exact ⟨he, .inl ⟨ys, hy, hj⟩⟩
  · exact ⟨he, .inr ⟨pre, trivial, hj⟩⟩

theorem kp2_b {b c : Nat} {w : World} (hb : b < w.heap.size) (hc : c < w.heap.size) (W : World) (l : Nat) (o o' : Obj) (hl : w.heap.size ≤ l) (_ : W.heap[l]? = some o) (_ : o.isCells = false) (_ : o.isWalk = false) : Kp2 b c W (W.putObj l o') :=
  ⟨World.putObj_heap_other (by omega), World.putObj_heap_other (by omega)⟩

theorem keepsOthers_below {W W' : World} (h : Below W.heap.size W W') : KeepsOthers W W' :=
  ⟨h.size, fun k o hk _ => (h.block k (Array.getElem?_eq_some_iff.1 hk).1).trans hk⟩
theorem boxed_under {W W' : World} {B : Nat} {t : TypeId} {v : Value} (h : Boxed W B t v) (hb : Below W.heap.size W W') : Boxed W' B t v := (hb.block B h.lt).trans h

theorem own1 {β : Type} (Bl Bs Bn n₀ B : Nat) (t ts tn e : TypeId) (size : Nat) (vs vn : Value) (w8 : World) (k : β → Nat) (f : β → List Value) (h0 : n₀ ≤ w8.heap.size) (h1 : n₀ ≤ B) :
    OwnFrom B (fun (s : β) W => (∃ v, Boxed W Bl t v ∧ W.ownsRow n₀ e size v (k s) (f s) ∧ True) ∧ (Boxed W Bs ts vs ∧ Boxed W Bn tn vn) ∧ Below n₀ w8 W) :=
  OwnFrom.and (Own.from (holdsRow_own n₀ Bl t e size k f (fun _ _ => True)) B) (OwnFrom.and (OwnFrom.and (Own.from (boxed_own Bs ts (fun _ => vs)) B) (Own.from (boxed_own Bn tn (fun _ => vn)) B)) (ownFrom_below h0 h1))

theorem own2 {β : Type} (Bt Bs n₀ B : Nat) (t ts : TypeId) (vs : Value) (w8 : World) (f : β → Value) (h0 : n₀ ≤ w8.heap.size) (h1 : n₀ ≤ B) :
    OwnFrom B (fun (s : β) W => (Boxed W Bt t (f s) ∧ Boxed W Bs ts vs) ∧ Below n₀ w8 W) :=
  OwnFrom.and (OwnFrom.and (Own.from (boxed_own Bt t f) B) (Own.from (boxed_own Bs ts (fun _ => vs)) B)) (ownFrom_below h0 h1)

theorem ck_string (W : World) (g cap len k : Nat) (cur : Array Value) (bs : List Int) (hl : bs.length = len) (hg : W.heap[g]? = some (.cells cur 5 (0, 0))) (ht : cur.toList.take len = bs.map (Value.int .u8)) (hk : 40 * k < len) :
    (convert 24 9 (ckV g len k)).run Try.prog W = .ok (.string (strOfNums (pL bs k))) W := by
  unfold ckV
  refine run_convert_bytes_arg W _ 5 Try.underlying24 Try.underlying5 g (40 * k) (min 40 (len - 40 * k)) (min 40 (len - 40 * k)) (pL bs k) (by rw [pL_len, hl]) (fun i hi => ?_) 9 Try.underlying9
  have hc := blk_cell hg (40 * k + i)
  rw [hc]
  have h1 := take_at ht (show 40 * k + i < len by omega)
  rw [Array.getElem?_toList] at h1
  rw [h1, List.getElem?_map, List.getElem?_eq_getElem (by omega)]
  unfold pL
  simp only [List.getD_eq_getElem?_getD, List.getElem?_take, List.getElem?_drop]
  rw [if_pos (by omega), List.getElem?_eq_getElem (by omega)]
  rfl

set_option maxHeartbeats 2000000 in
set_option maxRecDepth 100000 in
theorem built_a (a0 a1 a2 : Int) (A3 : Option Addr) (c3 : Nat) (l3 : List Int) (a4 : ByteArray) (w : World) (hr3 : Kd.C (Kd.int .u8) w A3 l3.length l3) (hc3 : l3.length ≤ c3) (hl3 : l3.length ≤ 5000) :
    Calls Try.prog 31 #[.agg #[.int .u8 a0, .int .u8 a1, .int .u32 a2, .slice A3 l3.length c3, .string a4]] w fun e w' => e = .returned (.string (builtOf (textOf a0 a1 a2 l3))) ∧ Below w.heap.size w w' := by
  have hu35 := Try.underlying35
  have info5 : (Try.prog.info? 5).map (fun i => (i.zero, i.size, i.bytes)) = some (some (.int .u8 0), 1, 1) := by kernel_rfl
  have info22 : (Try.prog.info? 22).map (fun i => (i.zero, i.size, i.bytes)) = some (some (.string ⟨#[]⟩), 1, 16) := by kernel_rfl
  have HR3 := Aside0.mk hr3
  have HC3 := Aside0.mk hc3
  clear hr3 hc3
  have HB := Aside0.mk (Below.refl w.heap.size w)
  obtain ⟨y221, hy221⟩ : ∃ y : List Int, y = ([a0, a1, (a2 / 16777216 % 256), (a2 / 65536 % 256), (a2 / 256 % 256), (a2 % 256)] : List Int) := ⟨_, rfl⟩
  have Ny221 := Aside0.mk hy221
  obtain ⟨y224, hy224⟩ : ∃ y : List Int, y = y221 ++ l3 := ⟨_, rfl⟩
  have Ny224 := Aside0.mk hy224
  have hbs : textOf a0 a1 a2 l3 = y224 := by rw [hy224, hy221]; rfl
  have hlen : y224.length = l3.length + 6 := by rw [hy224, hy221]; simp <;> omega
  have LMc2 : Aside0 (y221.length + l3.length < 140737488355328) := Aside0.mk (by rw [hy221]; simp only [List.length_cons, List.length_nil]; omega)
  rw [hbs]
  clear hbs hy221 hy224
  have HL := Aside0.mk hlen
  have HL3 := Aside0.mk hl3
  clear hlen hl3
  refine callsIn_wide (n := 9).1 ?_
  refine callsIn_of_wp_marks Try.func31 rfl trivial ?_ rfl
  simp only [Try.ntmps31, List.size_toArray, List.length_cons, List.length_nil, Nat.reduceAdd, Nat.reduceSub, Array.replicate_succ, Array.replicate_zero, List.push_toArray, List.append_toArray, List.nil_append, List.cons_append]
  refine wpIn_wide.2 ?_
  go_wp2_with (first | ((with_reducible refine gate_dst (N := 1) rfl ?_); refine box_event ?hg (N := 1) ?hd (cs := #[.int .u8 a0, .int .u8 a1, .int .u32 a2, .slice A3 l3.length c3, .string a4]) (t := 35) ?hr ?_; (case hd => rfl); (case hg => rfl); (case hr => first | (go_simp; done) | (go_simp; rfl)); intro gb220 hg w3 hbox hb; have n0_ := Aside0.mk (below_step (by repeat (first | (with_reducible first | exact HB.out | apply below_alloc | apply pw_below_drewN | apply below_drew1) | exact HB.out)) hb); have n1_ := Aside0.mk (hbox); have n2_ := Aside0.mk ((by rw [hg]; exact (below_size (by repeat (first | (with_reducible first | exact HB.out | apply below_alloc | apply pw_below_drewN | apply below_drew1) | exact HB.out))) : w.heap.size ≤ gb220)); have n3_ := Aside0.mk ((by rw [hg]; exact (below_size (by repeat (first | (with_reducible first | exact HB.out | apply below_alloc | apply pw_below_drewN | apply below_drew1) | exact HB.out))) : w.heap.size ≤ gb220)); clear HB; have HB := n0_; have BK220 := n1_; have GW220 := n2_; have GE220 := n3_; clear n0_ n1_ n2_ n3_; clear hb hbox hg; have hcz4_0 : w3.cell? ⟨gb220, 0, none⟩ = some (.int .u8 a0) := (blk_cell BK220.out 0).trans rfl; have hcz4_1 : w3.cell? ⟨gb220, 1, none⟩ = some (.int .u8 a1) := (blk_cell BK220.out 1).trans rfl; have hcz4_2 : w3.cell? ⟨gb220, 2, none⟩ = some (.int .u32 a2) := (blk_cell BK220.out 2).trans rfl; have hcz4_3 : w3.cell? ⟨gb220, 3, none⟩ = some (.slice A3 l3.length c3) := (blk_cell BK220.out 3).trans rfl; have hcz4_4 : w3.cell? ⟨gb220, 4, none⟩ = some (.string a4) := (blk_cell BK220.out 4).trans rfl; have hfz4_0 := blk_frozen BK220.out 0; have hfz4_1 := blk_frozen BK220.out 1; have hfz4_2 := blk_frozen BK220.out 2; have hfz4_3 := blk_frozen BK220.out 3; have hfz4_4 := blk_frozen BK220.out 4) | ((with_reducible refine gate_dst (N := 29) rfl ?_); refine Kd.R_lit (Kd.int .u8) _ 5 ?hg (N := 29) ?hd (xs := ([a0, a1, (a2 / 16777216 % 256), (a2 / 65536 % 256), (a2 / 256 % 256), (a2 % 256)] : List Int)) (inner := [.int .u8 a0, .int .u8 a1, .int .u8 (a2 / 16777216 % 256), .int .u8 (a2 / 65536 % 256), .int .u8 (a2 / 256 % 256), .int .u8 (a2 % 256)]) (ok := fun _ => True) (okp := fun _ => True) ?hr ?hp (fun _ hk => hk) trivial (Below.refl _ _) (Nat.le_refl _) (by simp) ?_; (case hd => rfl); (case hg => rfl); (case hr => first | (go_simp; done) | (go_simp; rfl)); (case hp => exact (Reps.one (show Kd.M (Kd.int .u8) _ _ _ a0 [.int .u8 a0] from rfl) (Reps.one (show Kd.M (Kd.int .u8) _ _ _ a1 [.int .u8 a1] from rfl) (Reps.one (show Kd.M (Kd.int .u8) _ _ _ (a2 / 16777216 % 256) [.int .u8 (a2 / 16777216 % 256)] from rfl) (Reps.one (show Kd.M (Kd.int .u8) _ _ _ (a2 / 65536 % 256) [.int .u8 (a2 / 65536 % 256)] from rfl) (Reps.one (show Kd.M (Kd.int .u8) _ _ _ (a2 / 256 % 256) [.int .u8 (a2 / 256 % 256)] from rfl) (Reps.one (show Kd.M (Kd.int .u8) _ _ _ (a2 % 256) [.int .u8 (a2 % 256)] from rfl) (Reps.none _ _)))))))); intro v222 w5 ho6 hb hg_ hnew_; clear hg_ hnew_; (first | rw [← Ny221.out] at ho6 | (simp only [Int.reduceToNat] at ho6; rw [← Ny221.out] at ho6)); have n0_ := Aside0.mk (Kd.R_lower ho6 (below_size (by repeat (first | (with_reducible first | exact HB.out | apply below_alloc | apply pw_below_drewN | apply below_drew1 | refine below_set ?_ GE220.out) | exact HB.out)))); have n1_ := Aside0.mk (blk_below (g := gb220) (o := .cells #[.int .u8 a0, .int .u8 a1, .int .u32 a2, .slice A3 l3.length c3, .string a4] 35 (0, 0)) (by (with_reducible repeat (first | refine blk_drewN ?_ _ | refine blk_drew ?_ | refine blk_alloc ?_ _)); exact BK220.out) hb); have n2_ := Aside0.mk (below_step (by repeat (first | (with_reducible first | exact HB.out | apply below_alloc | apply pw_below_drewN | apply below_drew1 | refine below_set ?_ GE220.out) | exact HB.out)) hb); clear BK220; clear HB; have HO223 := n0_; have BK220 := n1_; have HB := n2_; clear n0_ n1_ n2_; clear hb ho6; have hcz7_0 : w5.cell? ⟨gb220, 0, none⟩ = some (.int .u8 a0) := (blk_cell BK220.out 0).trans rfl; have hcz7_1 : w5.cell? ⟨gb220, 1, none⟩ = some (.int .u8 a1) := (blk_cell BK220.out 1).trans rfl; have hcz7_2 : w5.cell? ⟨gb220, 2, none⟩ = some (.int .u32 a2) := (blk_cell BK220.out 2).trans rfl; have hcz7_3 : w5.cell? ⟨gb220, 3, none⟩ = some (.slice A3 l3.length c3) := (blk_cell BK220.out 3).trans rfl; have hcz7_4 : w5.cell? ⟨gb220, 4, none⟩ = some (.string a4) := (blk_cell BK220.out 4).trans rfl; have hfz7_0 := blk_frozen BK220.out 0; have hfz7_1 := blk_frozen BK220.out 1; have hfz7_2 := blk_frozen BK220.out 2; have hfz7_3 := blk_frozen BK220.out 3; have hfz7_4 := blk_frozen BK220.out 4) | ((with_reducible refine gate_builtin (b := .append) (xs := #[.tmp 29, .tmp 31]) rfl ?_); at_builtin; refine Kd.R_append_rows (Kd.int .u8) (w0 := w) w.heap.size rfl (.tmp 29) (.tmp 31) 24 5 (.int .u8 0) 1 rfl Try.underlying24 info5 rfl (by decide) (by omega) v222 y221 l3 _ _ _ (fun _ => True) (fun _ => False) rfl rfl ?aO ?aR (fun _ _ h => h) (fun _ h => h.elim) ?aF ?aB ?aS ?aL ?_; (case aR => repeat (first | exact (Kd.C_below HR3.out HB.out) | (with_reducible refine Kd.C_alloc ?_ _) | (with_reducible refine Kd.C_drewN ?_ _) | (with_reducible refine Kd.C_drew ?_))); (case aB => exact (by repeat (first | (with_reducible first | exact HB.out | apply below_alloc | apply pw_below_drewN | apply below_drew1 | refine below_set ?_ GE220.out) | exact HB.out))); (case aF => exact (fun _ _ => trivial)); (case aO => exact (by (with_reducible repeat (first | apply Kd.R_alloc | apply Kd.R_drewN | apply Kd.R_drew)); exact HO223.out)); (case aS => exact (below_size (by repeat (first | (with_reducible first | exact HB.out | apply below_alloc | apply pw_below_drewN | apply below_drew1 | refine below_set ?_ GE220.out) | exact HB.out)))); (case aL => have := LMc2.out; omega); intro v225 w8 ho hb hg hat; rw [← Ny224.out] at ho; have n0_ := Aside0.mk (blk_grown (g := gb220) (o := .cells #[.int .u8 a0, .int .u8 a1, .int .u32 a2, .slice A3 l3.length c3, .string a4] 35 (0, 0)) (by (with_reducible repeat (first | refine blk_drewN ?_ _ | refine blk_drew ?_ | refine blk_alloc ?_ _)); exact BK220.out) hg (Kd.R_ne HO223.out BK220.out (by decide))); have n1_ := Aside0.mk (hb); have n2_ := Aside0.mk (ho); clear BK220; clear HB; clear HO223; have BK220 := n0_; have HB := n1_; have HO226 := n2_; clear n0_ n1_ n2_; clear ho hb hg hat))
  obtain ⟨gB, capB, curB, rfl, hgB0, hgB, hcapB, htkB⟩ := bytes_shape HO226.out (by have := HL.out; omega)
  have hgB' := Lib.hid hgB
  have htkB' := Lib.hid htkB
  clear hgB htkB
  refine (callsIn_wide (n := 9).1 (chunk_in Fence.wide 9 trivial rfl _ _ _ _)).mono ?_
  rintro e w' ⟨rfl, rfl⟩
  go_wp2
  have hL0 := Aside0.mk (Boxed.new w8 72 (.slice none 0 0))
  obtain ⟨wl, hwl⟩ : ∃ wl, w8.alloc (.cells #[.slice none 0 0] 72) = wl := ⟨_, rfl⟩
  have hBl0 : Below w8.heap.size w8 wl := by rw [← hwl]; exact (Below.refl _ _).alloc (Nat.le_refl _) _
  have hwls : wl.heap.size = w8.heap.size + 1 := by rw [← hwl]; simp
  rw [hwl] at hL0 ⊢
  have hLs := Aside0.mk HL.out
  have hgB1 : gB < w8.heap.size := (Array.getElem?_eq_some_iff.1 hgB').1
  clear hcz4_0 hcz4_1 hcz4_2 hcz4_3 hcz4_4 hfz4_0 hfz4_1 hfz4_2 hfz4_3 hfz4_4 hcz7_0 hcz7_1 hcz7_2 hcz7_3 hcz7_4 hfz7_0 hfz7_1 hfz7_2 hfz7_3 hfz7_4 BK220 HO226 Ny221 Ny224 LMc2 HR3 HC3 hwl
  obtain ⟨len, hlen⟩ : ∃ n, y224.length = n := ⟨_, rfl⟩
  have hlen5 : len ≤ 5006 := by have := HL.out; have := HL3.out; omega
  have hlen6 : 6 ≤ len := by have := HL.out; omega
  rw [hlen] at htkB' hcapB ⊢
  have hS := Boxed.new wl 24 (.slice (some ⟨gB, 0, none⟩) len capB)
  have hN := Boxed.new (wl.alloc (.cells #[.slice (some ⟨gB, 0, none⟩) len capB] 24)) 3 (.int .i64 40)
  rw [World.size_alloc] at hN
  rw [hwls] at hS hN
  have hS' := hS.alloc (.cells #[.int .i64 40] 3)
  clear hS
  have hsz : ((wl.alloc (.cells #[.slice (some ⟨gB, 0, none⟩) len capB] 24)).alloc (.cells #[.int .i64 40] 3)).heap.size = w8.heap.size + 3 := by simp; omega
  have hBl1 : Below w8.heap.size w8 ((wl.alloc (.cells #[.slice (some ⟨gB, 0, none⟩) len capB] 24)).alloc (.cells #[.int .i64 40] 3)) := (hBl0.alloc (by omega) _).alloc (by simp; omega) _
  have hL1 := (hL0.out.alloc (.cells #[.slice (some ⟨gB, 0, none⟩) len capB] 24)).alloc (.cells #[.int .i64 40] 3)
  clear hL0 hBl0
  generalize hWX : (wl.alloc (.cells #[.slice (some ⟨gB, 0, none⟩) len capB] 24)).alloc (.cells #[.int .i64 40] 3) = W0 at hS' hN hsz hBl1 hL1 ⊢
  clear hWX
  refine (wpIn_wide (n := 9)).1 ?_
  have hst := chunk_stops Fence.wide 8 trivial rfl (by decide) (w8.heap.size + 1) (w8.heap.size + 1 + 1) gB len capB (by omega) hcapB W0 (by omega) (by omega) hS' hN
  have hent : ∀ args w, (callFunc 49 args).run Try.prog w = .ok (.enter 49 args) w := enters_of Try.func49 (by kernel_rfl) rfl
  obtain ⟨I1, hI1⟩ : ∃ I1 : List (Ck len) → World → Prop, I1 = (fun (pre : List (Ck len)) W => (∃ v, Boxed W w8.heap.size 72 v ∧ W.ownsRow w8.heap.size 22 1 v pre.length (pre.map fun x => Value.string (pc y224 x.1)) ∧ True) ∧ (Boxed W (w8.heap.size + 1) 24 (.slice (some ⟨gB, 0, none⟩) len capB) ∧ Boxed W (w8.heap.size + 1 + 1) 3 (.int .i64 40)) ∧ Below w8.heap.size w8 W) := ⟨_, rfl⟩
  have hIo : OwnFrom W0.heap.size I1 := by
    rw [hI1]
    exact own1 w8.heap.size (w8.heap.size + 1) (w8.heap.size + 1 + 1) w8.heap.size W0.heap.size _ _ _ _ _ _ _ w8 (fun pre : List (Ck len) => pre.length) _ (Nat.le_refl _) (by omega)
  have hI0 : I1 [] W0 := by
    rw [hI1]
    exact ⟨⟨_, hL1, World.ownsRow_nil _ _ _ _, trivial⟩, ⟨hS', hN⟩, hBl1⟩
  have hkb := kp2_b (b := w8.heap.size + 1) (c := w8.heap.size + 1 + 1) (w := W0) (by omega) (by omega)
  apply wpIn_rangeFunc_ownF (F := Fence.wide) (n := 9) rfl (by decide) (gf := 49) (lb := #[.pointer (some ⟨w8.heap.size + 1, 0, none⟩), .pointer (some ⟨w8.heap.size + 1 + 1, 0, none⟩)]) rfl trivial hent
    hst Kp2.trans hkb (Below.refl _ _) (fun _ => rfl) I1 (fun _ _ _ => False) hIo (fun _ _ _ _ _ hs _ _ => hs) hI0
  case hassign =>
    intro l x W K hK
    gi_wp2
    exact hK
  case hbody =>
    intro l pre x W hI hlt
    rw [hI1] at hI
    obtain ⟨⟨v, hv, hrow, -⟩, ⟨hbs, hbn⟩, hB⟩ := hI
    obtain ⟨i0, hi, hz0, hz1, hz2⟩ := info_parts info22
    have hx := x.2
    have hcv := ck_string W gB capB len x.1 curB y224 hlen ((hB.block gB hgB1).trans hgB') htkB' hx
    have hpl : (strOfNums (pL y224 x.1)).size ≤ 40 := by rw [strOfNums_size, pL_len]; omega
    have hpc : pc y224 x.1 = constB (strOfNums (pL y224 x.1)) := rfl
    clear hgB' htkB'
    generalize pc y224 x.1 = z at hpc
    have HP := Lib.hid hpc
    clear hpc
    gi_wp2_with (first
      | (refine ⟨trivial, ?_⟩; gi_at_call 26; refine (CallsIn.inRound l (callsIn_wide.2 (newConst_calls (strOfNums (pL y224 x.1)) _ hpl))).mono ?_; rintro e w' ⟨rfl, hb⟩; rw [← HP.out]; have hv' := boxed_under hv hb; have hrow' := pw_own_below hrow hb; have hbs' := boxed_under hbs hb; have hbn' := boxed_under hbn hb; have hB' := below_then hB hB.size hb; have hc' := hv'.cell)
      | (gi_at_builtin; refine wpListIn_append_own _ rfl _ _ 72 rfl w8.heap.size 22 i0 (.string ⟨#[]⟩) 1 16 Try.underlying72 hi hz0 hz1 hz2 rfl (by decide) _ _ _ rfl (hrow'.alloc _) ⟨w'.heap.size, 0, none⟩ 1 1 [.string z] rfl rfl (cell_one_new _ _ _) (by simp [Value.oneCell']) (by have : maxLen = 9223372036854775807 := rfl; omega) (by omega) (by have := hB'.size; simp; omega) ?_; intro v' w1 hown' hgrow _; obtain ⟨g', cap', rfl⟩ := ownsRow_succ hown'; obtain ⟨hv1, hv2, hr2, hk2, hb2⟩ := hv'.appended (by decide) hrow' hB'.size (Nat.le_refl _) hown' hgrow; have hc1 := hv1.cell; have hf1 := hv1.frozen))
    have hbs2 := ((hbs'.alloc (.cells #[.string z] 22)).kept hgrow (hbs'.not_row (by decide) hrow')).other (B' := w8.heap.size) (by omega) (.slice (some ⟨g', 0, none⟩) (pre.length + 1) cap')
    have hbn2 := ((hbn'.alloc (.cells #[.string z] 22)).kept hgrow (hbn'.not_row (by decide) hrow')).other (B' := w8.heap.size) (by omega) (.slice (some ⟨g', 0, none⟩) (pre.length + 1) cap')
    refine ⟨(keepsOthers_below hb).trans hk2, ⟨hbs2.trans hbs.symm, hbn2.trans hbn.symm⟩, ?_⟩
    rw [hI1]
    refine ⟨⟨_, hv2, ?_, trivial⟩, ⟨hbs2, hbn2⟩, hB'.trans hb2⟩
    rw [List.length_append, List.map_append, List.map_singleton]
    rw [HP.out] at hr2
    exact hr2
  case hdone =>
    intro D ys W hD hS hI hK
    rw [hI1] at hI
    obtain ⟨⟨v, hv, hrow, -⟩, -, hB1⟩ := hI
    obtain ⟨m, hm⟩ : ∃ m, nP y224 = m + 1 := ⟨nP y224 - 1, by unfold nP; omega⟩
    have hm5 : m ≤ 200 := by unfold nP at hm; omega
    have hyl : ys.length = m + 1 := by
      have h1 := congrArg List.length hS
      rw [List.length_map, List.length_range] at h1
      rw [h1, ← hm]; unfold nP; rw [hlen]
    have hrw : (ys.map fun x => Value.string (pc y224 x.1)) = (zsOf y224).map Value.string := by
      have h1 : ys.map (fun x => Value.string (pc y224 x.1)) = (ys.map (·.1)).map (fun k => Value.string (pc y224 k)) := by rw [List.map_map]; rfl
      rw [h1, hS]
      unfold zsOf nP
      rw [List.map_map, hlen]
      rfl
    rw [hrw, hyl] at hrow
    obtain ⟨zs, hzs⟩ : ∃ zs, zsOf y224 = zs := ⟨_, rfl⟩
    have hzl : zs.length = m + 1 := by rw [← hzs]; unfold zsOf; simp [hm]
    rcases hrow.2 with ⟨_, h0⟩ | ⟨g2, cap2, cur2, rfl, hg2b, hg2, hk2c, -, -, ht2⟩
    · omega
    have hc2 : ∀ j, j < m + 1 → cur2[j]? = some (.string (zs.getD j ⟨#[]⟩)) := by
      intro j hj
      have h1 := take_at ht2 (show j < (m + 1) * 1 by omega)
      rw [Array.getElem?_toList, hzs, List.getElem?_map, List.getElem?_eq_getElem (by omega)] at h1
      rw [h1, List.getD_eq_getElem?_getD, List.getElem?_eq_getElem (by omega)]
      rfl
    have hcm : W.cell? ⟨g2, m, none⟩ = some (.string (zs.getD m ⟨#[]⟩)) := (blk_cell hg2 m).trans (hc2 m (by omega))
    have hvc := hv.cell
    have hg2' := Lib.hid hg2
    have hK' := Lib.hid hK
    have hgoal : builtOf y224 = foldT zs (downto m m) (zs.getD m ⟨#[]⟩) := by unfold builtOf; rw [hzs, hm]; rfl
    have HG := Lib.hid hgoal
    have hz42 : ∀ j, (zs.getD j ⟨#[]⟩).size ≤ 42 := by rw [← hzs]; exact zs_size y224
    have hfs : ∀ js t0, (foldT zs js t0).size ≤ t0.size + 43 * js.length := by rw [← hzs]; exact foldT_size y224
    have HF := Lib.hid hfs
    have HZ := Lib.hid hz42
    have HC2 := Lib.hid hc2
    clear hg2 hK hgoal hfs hz42 hc2 hgB' htkB' hS' hN hL1 hBl1 hst hIo hI0 hkb hrow hS hrw hzs
    generalize ht0 : zs.getD m ⟨#[]⟩ = t0 at hcm
    have hv2c := (hv.alloc (.cells #[.string t0] 22)).cell
    go_wp2
    have hg2l : g2 < W.heap.size := (Array.getElem?_eq_some_iff.1 hg2'.out).1
    have hDl : D < W.heap.size := (Array.getElem?_eq_some_iff.1 hK'.out).1
    have hT1 := (Boxed.new W 22 (.string t0)).alloc (.cells #[.slice (some ⟨g2, 0, none⟩) m cap2] 72)
    have hS2 := Boxed.new (W.alloc (.cells #[.string t0] 22)) 72 (.slice (some ⟨g2, 0, none⟩) m cap2)
    rw [World.size_alloc] at hS2
    have hB20 : Below W.heap.size W ((W.alloc (.cells #[.string t0] 22)).alloc (.cells #[.slice (some ⟨g2, 0, none⟩) m cap2] 72)) := ((Below.refl _ W).alloc (Nat.le_refl _) _).alloc (by simp) _
    have hsz2 : ((W.alloc (.cells #[.string t0] 22)).alloc (.cells #[.slice (some ⟨g2, 0, none⟩) m cap2] 72)).heap.size = W.heap.size + 2 := by simp
    generalize hWY : (W.alloc (.cells #[.string t0] 22)).alloc (.cells #[.slice (some ⟨g2, 0, none⟩) m cap2] 72) = W1 at hT1 hS2 hB20 hsz2 ⊢
    clear hWY hv2c hvc hcm hv
    have hcs : ∀ j, j < m → W1.cell? ⟨g2, j, none⟩ = some (.string (zs.getD j ⟨#[]⟩)) := fun j hj => (blk_cell ((hB20.block g2 hg2l).trans hg2'.out) j).trans (HC2.out j (by omega))
    refine (wpIn_wide (n := 9)).1 ?_
    have hst2 := backward_stops Fence.wide 8 trivial rfl (by decide) (W.heap.size + 1) g2 m cap2 zs (by omega) W1 (by omega) (by omega) hS2.cell hcs
    have hent2 : ∀ args w, (callFunc 50 args).run Try.prog w = .ok (.enter 50 args) w := enters_of Try.func50 (by kernel_rfl) rfl
    obtain ⟨I2, hI2⟩ : ∃ I2 : List Nat → World → Prop, I2 = (fun (pre : List Nat) V => (Boxed V W.heap.size 22 (.string (foldT zs pre t0)) ∧ Boxed V (W.heap.size + 1) 72 (.slice (some ⟨g2, 0, none⟩) m cap2)) ∧ Below W.heap.size W V) := ⟨_, rfl⟩
    have hI2o : OwnFrom W1.heap.size I2 := by
      rw [hI2]
      exact own2 W.heap.size (W.heap.size + 1) W.heap.size W1.heap.size _ _ _ W (fun pre : List Nat => .string (foldT zs pre t0)) (Nat.le_refl _) (by omega)
    have hI20 : I2 [] W1 := by
      rw [hI2]
      exact ⟨⟨hT1, hS2⟩, hB20⟩
    have hkb2 := kp2_b (b := W.heap.size + 1) (c := g2) (w := W1) (by omega) (by omega)
    have HCS := Lib.hid hcs
    clear hcs
    apply wpIn_rangeFunc_ownF (F := Fence.wide) (n := 9) rfl (by decide) (gf := 50) (lb := #[.pointer (some ⟨W.heap.size + 1, 0, none⟩)]) rfl trivial hent2
      hst2 Kp2.trans hkb2 (Below.refl _ _) (fun _ => rfl) I2 (fun _ _ _ => False) hI2o (fun _ _ _ _ _ hs _ _ => hs) hI20
    case hassign =>
      intro l x V K hK
      gi_wp2
      exact hK
    case hbody =>
      intro l pre x V hI hlt
      rw [hI2] at hI
      obtain ⟨⟨hT, hS3⟩, hB2⟩ := hI
      have hfin : ∀ V', Boxed V' W.heap.size 22 (.string (joinT (zs.getD x ⟨#[]⟩) (foldT zs pre t0))) → Boxed V' (W.heap.size + 1) 72 (.slice (some ⟨g2, 0, none⟩) m cap2) → Below W.heap.size W V' → I2 (pre ++ [x]) V' := by
        intro V' h1 h2 h3
        rw [hI2]
        refine ⟨⟨?_, h2⟩, h3⟩
        rw [foldT_snoc]
        exact h1
      have HFIN := Lib.hid hfin
      have hz1 := HZ.out x
      have ht1 := HF.out pre t0
      have ht2 := HZ.out m
      rw [ht0] at ht2
      clear hfin
      have hcv := run_convert_bytes_arg (P := Try.prog) (V.alloc (.cells #[.int .u8 112] 5)) 24 5 Try.underlying24 Try.underlying5 V.heap.size 0 1 1 [112] rfl (fun i hi => by
        obtain rfl : i = 0 := by omega
        exact blk_cell (blk_new V _) 0) 22 Try.underlying22
      have hjt : joinT (zs.getD x ⟨#[]⟩) (foldT zs pre t0) = (strOfNums [112] ++ zs.getD x ⟨#[]⟩) ++ foldT zs pre t0 := rfl
      rw [hjt] at HFIN
      clear hjt
      rw [List.getD_eq_getElem?_getD] at HFIN hz1
      generalize zs[x]?.getD ⟨#[]⟩ = z at HFIN hz1 ⊢
      generalize foldT zs pre t0 = t at HFIN ht1 hT
      have hps : (strOfNums [112]).size = 1 := rfl
      generalize strOfNums [112] = p at HFIN hcv hps
      have c3 : p.size + z.size ≤ 9223372036854775807 := by omega
      have c4 : (p ++ z).size + t.size ≤ 9223372036854775807 := by rw [ByteArray.size_append]; omega
      have hct := ((hT.alloc (.cells #[.int .u8 112] 5))).cell
      have hft := ((hT.alloc (.cells #[.int .u8 112] 5))).frozen
      have c3b0 := eq_true c3
      have c3b1 := decide_eq_true c3
      have c3b2 : (9223372036854775807 < p.size + z.size) = False := eq_false (Nat.not_lt.2 c3)
      have c4b0 := eq_true c4
      have c4b1 := decide_eq_true c4
      have c4b2 : (9223372036854775807 < (p ++ z).size + t.size) = False := eq_false (Nat.not_lt.2 c4)
      have c5 : p.size + z.size + t.size ≤ 9223372036854775807 := by omega
      have c5b0 := eq_true c5
      have c5b1 := decide_eq_true c5
      have c5b2 : (9223372036854775807 < p.size + z.size + t.size) = False := eq_false (Nat.not_lt.2 c5)
      clear c3 c4 c5 ht1 ht2 hz1 hps
      gi_wp2
      have hBV : Below W.heap.size V ((V.alloc (.cells #[.int .u8 112] 5)).setCell ⟨W.heap.size, 0, none⟩ (.string ((p ++ z) ++ t))) :=
        ((Below.refl _ V).alloc hB2.size _).setCell (p := ⟨W.heap.size, 0, none⟩) (Nat.le_refl _) _
      have hSV := (hS3.alloc (.cells #[.int .u8 112] 5)).other (B' := W.heap.size) (by omega) (.string ((p ++ z) ++ t))
      exact ⟨(KeepsOthers.alloc _ _).trans (KeepsOthers.setCell _ _ _), ⟨hSV.trans hS3.symm, hBV.block g2 hg2l⟩, HFIN.out _ ((hT.alloc _).set _) hSV (hB2.trans hBV)⟩
    case hdone =>
      intro D2 ys2 V hD2 hy2 hI hK2
      rw [hI2] at hI
      obtain ⟨⟨hT, -⟩, hB2⟩ := hI
      have hct := hT.cell
      rw [hy2, ← ht0, ← HG.out] at hct
      go_wp2
      have hDD : (V.putObj D2 (.deferred none)).heap[D]? = some (.deferred (some [])) := (World.putObj_heap_other (by omega)).trans ((hB2.block D hDl).trans hK'.out)
      have hVs := hB2.size
      have hWs := hB1.size
      have hws := HB.out.size
      refine ⟨by simp, .inl ⟨_, _, rfl, run_takeDeferred hK2, ⟨by simp, .inl ⟨_, _, rfl, run_takeDeferred hDD, ?_⟩⟩⟩⟩
      refine ⟨_, results_tmp rfl _ _ _, rfl, ?_⟩
      have h1 := belowK_b (w := w) (Nat.le_refl _) V D2 _ (.deferred none) (by omega) hK2 rfl rfl
      have h2 := belowK_b (w := w) (Nat.le_refl _) _ D _ (.deferred none) (by omega) hDD rfl rfl
      exact (((HB.out.trans (hB1.mono hws)).trans (hB2.mono (by omega))).trans h1).trans h2
    case hstop =>
      rintro D c pre W _ _ h _
      exact h.elim
  case hstop =>
    rintro D c pre W _ _ h _
    exact h.elim
end Go.Proofs.Ytimfhdpgkoonaaa.Iter
namespace Go.Proofs.Ytimfhdpgkoonaaa
open Go.RowKit Go.Proofs.YtimfhdpgkoonaaaW.PrintWords
def link_built.f (a0 a1 a2 : Int) (l3 : List Int) (a4 : ByteArray) : Option ByteArray := if l3.length ≤ 5000 then some (Iter.builtOf (Iter.textOf a0 a1 a2 l3)) else none
theorem link_built.calls (a0 a1 a2 : Int) (A3 : Option Addr) (c3 : Nat) (l3 : List Int) (a4 : ByteArray) (r : ByteArray) (w : World) (hr3 : Kd.C (Kd.int .u8) w A3 l3.length l3) (hc3 : l3.length ≤ c3) (h : link_built.f a0 a1 a2 l3 a4 = some r) :
    Calls Try.prog 31 #[.agg #[.int .u8 a0, .int .u8 a1, .int .u32 a2, .slice A3 l3.length c3, .string a4]] w fun e w' => e = .returned (.string r) ∧ Below w.heap.size w w' := by
  unfold link_built.f at h
  split at h
  case isFalse => cases h
  rename_i hl
  obtain rfl := Option.some.inj h
  exact Iter.built_a a0 a1 a2 A3 c3 l3 a4 w hr3 hc3 hl
end Go.Proofs.Ytimfhdpgkoonaaa
