/- LinkActs: its walk, by hand; the plain law. -/
import Derived.Test.YtimfhdpgkoonaaaAl06
import Derived.Test.YtimfhdpgkoonaaaRAcc06
import Derived.Test.YtimfhdpgkoonaaaPrxRS
import Derived.Test.YtimfhdpgkoonaaaPrxSame
import Derived.Deep.QuietTactic
import Derived.BigQuiet
set_option linter.unusedVariables false
set_option linter.unusedSimpArgs false
namespace Go.Proofs.Ytimfhdpgkoonaaa.L06
open Go.RowKit Go.Proofs.Ytimfhdpgkoonaaa.Pr Go.Proofs.YtimfhdpgkoonaaaW.PrintWords Go.Proofs.YtimfhdpgkoonaaaW.PrintLast Go.Proofs.YtimfhdpgkoonaaaW.PrintMore Go.Proofs.Ytimfhdpgkoonaaa.TT Go.Proofs.Ytimfhdpgkoonaaa.Ev03

theorem eqA40' (d : Nat) (w : World) (x0 y0 : ByteArray) (x1 y1 : Int) (x2 y2 : Int) (x3 y3 : Int) :
    (Op.equalIn (d + 2) 40 (.agg #[.string x0, .int .u32 x1, .int .u32 x2, .int .u64 x3]) (.agg #[.string y0, .int .u32 y1, .int .u32 y2, .int .u64 y3])).run Try.prog w = .ok (x0.toList == y0.toList && (x1 == y1 && (x2 == y2 && (x3 == y3)))) w := by
  refine eqA_of Try.underlying40 (by kernel_rfl) ?_
  refine eqf_cons (by rfl) (by go_simp; rfl) (by go_simp; rfl) (by go_simp) ?_
  refine eqf_cons (by rfl) (by go_simp; rfl) (by go_simp; rfl) (by go_simp) ?_
  refine eqf_cons (by rfl) (by go_simp; rfl) (by go_simp; rfl) (by go_simp) ?_
  exact eqf_last (by rfl) (by go_simp; rfl) (by go_simp; rfl) (by go_simp)
attribute [local go_sem high] eqA40'
abbrev EdV (k : ByteArray) (n t c : Int) : Array Value := #[.string k, .int .u32 n, .int .u32 t, .int .u64 c]
abbrev LvA (a b s : Int) (A : Option Addr) (l : List Int) (c : Nat) (t : ByteArray) : Array Value := #[.int .u8 a, .int .u8 b, .int .u32 s, .slice A l.length c, .string t]
structure Act0 (w W : World) (k0 : ByteArray) (nx top came x0 x1 x2 : Int) (A3 : Option Addr) (l3 : List Int) (c3 : Nat) (x4 : ByteArray) : Prop where
  hB : Below w.heap.size w W
  b3 : W.heap[w.heap.size]? = some (.cells (EdV k0 nx top came) 40 (0, 0))
  b5 : W.heap[w.heap.size + 1]? = some (.cells (LvA x0 x1 x2 A3 l3 c3 x4) 26 (0, 0))
  cx : Kd.C (Kd.int .u8) W A3 l3.length l3
section
variable {w W W' : World} {k0 x4 : ByteArray} {nx top came x0 x1 x2 : Int} {A3 : Option Addr} {l3 : List Int} {c3 : Nat}
theorem Act0.step (h : Act0 w W k0 nx top came x0 x1 x2 A3 l3 c3 x4) (hb : Below W.heap.size W W') : Act0 w W' k0 nx top came x0 x1 x2 A3 l3 c3 x4 :=
  ⟨h.hB.trans (hb.mono h.hB.size), blk_below h.b3 hb, blk_below h.b5 hb, Kd.C_below h.cx hb⟩
end
def BlkA (W : World) (g : Nat) (cs : Array Value) (t : TypeId) : Prop := W.heap[g]? = some (.cells cs t (0, 0))
theorem BlkA.step {W W' : World} {g : Nat} {cs : Array Value} {t : TypeId} (h : BlkA W g cs t) (hb : Below W.heap.size W W') : BlkA W' g cs t := blk_below h hb
def FewA (a b s : Int) (l : List Int) (t : ByteArray) (q : Bool) : Prop := chantrylaw06_few.f a b s l t = some q
def SameA (a b s : Int) (l : List Int) (t : ByteArray) : Prop := chantrylaw06_same.f a b s l t a b s l t = some true
set_option maxHeartbeats 3200000 in
set_option maxRecDepth 100000 in
theorem acts_core (k0 : ByteArray) (nx top came me x0 x1 x2 : Int) (A3 : Option Addr) (c3 : Nat) (l3 : List Int) (x4 : ByteArray) (w : World)
    (hcx : Kd.C (Kd.int .u8) w A3 l3.length l3) (hlx : l3.length ≤ c3) (qx : Bool) (hqx : FewA x0 x1 x2 l3 x4 qx)
    (s1 : ByteArray) (s2 s3 s4 t0 t1 t2 : Int) (tb : List Int) (tt : ByteArray) (f : Int) (hs : qx = true → link_Send.f k0 nx top came x0 x1 l3 = some (s1, s2, s3, s4, t0, t1, t2, tb, tt, f)) (hs2 : qx = true → chantryref06_Send.f 6000 k0 nx top came x0 x1 l3 = some (s1, s2, s3, s4, t0, t1, t2, tb, tt, f))
    (a1 : ByteArray) (a2 a3 a4 g : Int) (ha : link_Accept.f 6000 k0 nx top came me x0 x1 x2 l3 x4 = some (a1, a2, a3, a4, g)) (ha2 : chantryref06_Accept.f 6000 k0 nx top came me x0 x1 x2 l3 x4 = some (a1, a2, a3, a4, g)) (hsm : SameA t0 t1 t2 tb tt) :
    Calls Try.prog 4 #[.agg #[.string k0, .int .u32 nx, .int .u32 top, .int .u64 came], .int .u8 me, .agg #[.int .u8 x0, .int .u8 x1, .int .u32 x2, .slice A3 l3.length c3, .string x4]] w fun e w' => e = .returned (.bool true) ∧ Below w.heap.size w w' := by
  have HS := Lib.hid hs; have HS2 := Lib.hid hs2; have HA := Lib.hid ha; have HA2 := Lib.hid ha2; have HLX := Lib.hid hlx; have HSM := Lib.hid hsm
  clear hs hs2 ha ha2 hlx hsm
  have S0 : Act0 w ((w.alloc (.cells (EdV k0 nx top came) 40 (0, 0))).alloc (.cells (LvA x0 x1 x2 A3 l3 c3 x4) 26 (0, 0))) k0 nx top came x0 x1 x2 A3 l3 c3 x4 := by
    have n1 := blk_new w (.cells (EdV k0 nx top came) 40 (0, 0))
    have n2 := blk_new (w.alloc (.cells (EdV k0 nx top came) 40 (0, 0))) (.cells (LvA x0 x1 x2 A3 l3 c3 x4) 26 (0, 0))
    rw [World.size_alloc] at n2
    have hb3 : Below w.heap.size w ((w.alloc (.cells (EdV k0 nx top came) 40 (0, 0))).alloc (.cells (LvA x0 x1 x2 A3 l3 c3 x4) 26 (0, 0))) := below_alloc (below_alloc (Below.refl _ _) _) _
    exact ⟨hb3, blk_alloc n1 _, n2, Kd.C_below hcx hb3⟩
  have ST := Lib.hid S0
  clear S0 hcx
  go_enter Try.func4, Try.ntmps4
  go_wp2_with fail
  generalize (w.alloc (.cells (EdV k0 nx top came) 40 (0, 0))).alloc (.cells (LvA x0 x1 x2 A3 l3 c3 x4) 26 (0, 0)) = w0 at *
  refine (chantrylaw06_alive.calls 6000 true w0 (alive06 6000 (by decide))).mono ?_
  rintro er w1 ⟨rfl, hb⟩
  replace ST := Lib.hid (ST.out.step hb)
  clear hb
  have ck0 : w1.cell? ⟨w.heap.size, 0, none⟩ = some (.string k0) := blk_cell ST.out.b3 0
  have ck1 : w1.cell? ⟨w.heap.size, 1, none⟩ = some (.int .u32 nx) := blk_cell ST.out.b3 1
  have ck2 : w1.cell? ⟨w.heap.size, 2, none⟩ = some (.int .u32 top) := blk_cell ST.out.b3 2
  have ck3 : w1.cell? ⟨w.heap.size, 3, none⟩ = some (.int .u64 came) := blk_cell ST.out.b3 3
  have cx0 : w1.cell? ⟨w.heap.size + 1, 0, none⟩ = some (.int .u8 x0) := blk_cell ST.out.b5 0
  have cx1 : w1.cell? ⟨w.heap.size + 1, 1, none⟩ = some (.int .u8 x1) := blk_cell ST.out.b5 1
  have cx2 : w1.cell? ⟨w.heap.size + 1, 2, none⟩ = some (.int .u32 x2) := blk_cell ST.out.b5 2
  have cx3 : w1.cell? ⟨w.heap.size + 1, 3, none⟩ = some (.slice A3 l3.length c3) := blk_cell ST.out.b5 3
  have cx4 : w1.cell? ⟨w.heap.size + 1, 4, none⟩ = some (.string x4) := blk_cell ST.out.b5 4
  go_wp2_with fail
  refine (chantrylaw06_few.calls x0 x1 x2 A3 c3 l3 x4 qx w1 ST.out.cx HLX.out hqx).mono ?_
  rintro er w2 ⟨rfl, hb⟩
  replace ST := Lib.hid (ST.out.step hb)
  clear hb
  clear ck0 ck1 ck2 ck3 cx0 cx1 cx2 cx3 cx4
  have ck0 : w2.cell? ⟨w.heap.size, 0, none⟩ = some (.string k0) := blk_cell ST.out.b3 0
  have ck1 : w2.cell? ⟨w.heap.size, 1, none⟩ = some (.int .u32 nx) := blk_cell ST.out.b3 1
  have ck2 : w2.cell? ⟨w.heap.size, 2, none⟩ = some (.int .u32 top) := blk_cell ST.out.b3 2
  have ck3 : w2.cell? ⟨w.heap.size, 3, none⟩ = some (.int .u64 came) := blk_cell ST.out.b3 3
  have cx0 : w2.cell? ⟨w.heap.size + 1, 0, none⟩ = some (.int .u8 x0) := blk_cell ST.out.b5 0
  have cx1 : w2.cell? ⟨w.heap.size + 1, 1, none⟩ = some (.int .u8 x1) := blk_cell ST.out.b5 1
  have cx2 : w2.cell? ⟨w.heap.size + 1, 2, none⟩ = some (.int .u32 x2) := blk_cell ST.out.b5 2
  have cx3 : w2.cell? ⟨w.heap.size + 1, 3, none⟩ = some (.slice A3 l3.length c3) := blk_cell ST.out.b5 3
  have cx4 : w2.cell? ⟨w.heap.size + 1, 4, none⟩ = some (.string x4) := blk_cell ST.out.b5 4
  cases qx with
  | false =>
    go_wp2_with fail
    go_ret
    exact ⟨rfl, ST.out.hB⟩
  | true =>
  by_cases z0 : (k0.size : Int) > 3000
  · go_wp2_with fail
    go_ret
    exact ⟨rfl, ST.out.hB⟩
  go_wp2_with fail
  refine (link_Send.calls k0 nx top came x0 x1 A3 c3 l3 s1 s2 s3 s4 t0 t1 t2 tb tt f _ ST.out.cx HLX.out (HS.out (by first | rfl | trivial))).mono ?_
  rintro er w5 ⟨vS, rfl, hR, hb⟩
  obtain ⟨As, cs, rfl⟩ := Kd.R_slice hR
  have CS := Lib.hid (Kd.R_reads' hR).2.2
  have LS := Lib.hid (Kd.R_reads' hR).2.1
  replace ST := Lib.hid (ST.out.step hb)
  clear ck0 ck1 ck2 ck3 cx0 cx1 cx2 cx3 cx4
  have hb6 : Below w5.heap.size w5 ((w5.alloc (.cells #[.string s1, .int .u32 s2, .int .u32 s3, .int .u64 s4] 41 (0, 0))).alloc (.cells #[.int .u8 t0, .int .u8 t1, .int .u32 t2, .slice As tb.length cs, .string tt] 35 (0, 0))) := below_alloc (below_alloc (Below.refl _ _) _) _
  have n8 := blk_new w5 (.cells #[.string s1, .int .u32 s2, .int .u32 s3, .int .u64 s4] 41 (0, 0))
  have n9 := blk_new (w5.alloc (.cells #[.string s1, .int .u32 s2, .int .u32 s3, .int .u64 s4] 41 (0, 0))) (.cells #[.int .u8 t0, .int .u8 t1, .int .u32 t2, .slice As tb.length cs, .string tt] 35 (0, 0))
  rw [World.size_alloc] at n9
  have B7 : BlkA ((w5.alloc (.cells #[.string s1, .int .u32 s2, .int .u32 s3, .int .u64 s4] 41 (0, 0))).alloc (.cells #[.int .u8 t0, .int .u8 t1, .int .u32 t2, .slice As tb.length cs, .string tt] 35 (0, 0))) w5.heap.size #[.string s1, .int .u32 s2, .int .u32 s3, .int .u64 s4] 41 := blk_alloc n8 _
  have B8 : BlkA ((w5.alloc (.cells #[.string s1, .int .u32 s2, .int .u32 s3, .int .u64 s4] 41 (0, 0))).alloc (.cells #[.int .u8 t0, .int .u8 t1, .int .u32 t2, .slice As tb.length cs, .string tt] 35 (0, 0))) (w5.heap.size + 1) #[.int .u8 t0, .int .u8 t1, .int .u32 t2, .slice As tb.length cs, .string tt] 35 := n9
  have HB7 := Lib.hid B7; have HB8 := Lib.hid B8
  replace ST := Lib.hid (ST.out.step hb6)
  replace CS := Lib.hid (Kd.C_below CS.out hb6)
  clear n8 n9 B7 B8 hb6 hb hR
  have ck0 : ((w5.alloc (.cells #[.string s1, .int .u32 s2, .int .u32 s3, .int .u64 s4] 41 (0, 0))).alloc (.cells #[.int .u8 t0, .int .u8 t1, .int .u32 t2, .slice As tb.length cs, .string tt] 35 (0, 0))).cell? ⟨w.heap.size, 0, none⟩ = some (.string k0) := blk_cell ST.out.b3 0
  have ck1 : ((w5.alloc (.cells #[.string s1, .int .u32 s2, .int .u32 s3, .int .u64 s4] 41 (0, 0))).alloc (.cells #[.int .u8 t0, .int .u8 t1, .int .u32 t2, .slice As tb.length cs, .string tt] 35 (0, 0))).cell? ⟨w.heap.size, 1, none⟩ = some (.int .u32 nx) := blk_cell ST.out.b3 1
  have ck2 : ((w5.alloc (.cells #[.string s1, .int .u32 s2, .int .u32 s3, .int .u64 s4] 41 (0, 0))).alloc (.cells #[.int .u8 t0, .int .u8 t1, .int .u32 t2, .slice As tb.length cs, .string tt] 35 (0, 0))).cell? ⟨w.heap.size, 2, none⟩ = some (.int .u32 top) := blk_cell ST.out.b3 2
  have ck3 : ((w5.alloc (.cells #[.string s1, .int .u32 s2, .int .u32 s3, .int .u64 s4] 41 (0, 0))).alloc (.cells #[.int .u8 t0, .int .u8 t1, .int .u32 t2, .slice As tb.length cs, .string tt] 35 (0, 0))).cell? ⟨w.heap.size, 3, none⟩ = some (.int .u64 came) := blk_cell ST.out.b3 3
  have cx0 : ((w5.alloc (.cells #[.string s1, .int .u32 s2, .int .u32 s3, .int .u64 s4] 41 (0, 0))).alloc (.cells #[.int .u8 t0, .int .u8 t1, .int .u32 t2, .slice As tb.length cs, .string tt] 35 (0, 0))).cell? ⟨w.heap.size + 1, 0, none⟩ = some (.int .u8 x0) := blk_cell ST.out.b5 0
  have cx1 : ((w5.alloc (.cells #[.string s1, .int .u32 s2, .int .u32 s3, .int .u64 s4] 41 (0, 0))).alloc (.cells #[.int .u8 t0, .int .u8 t1, .int .u32 t2, .slice As tb.length cs, .string tt] 35 (0, 0))).cell? ⟨w.heap.size + 1, 1, none⟩ = some (.int .u8 x1) := blk_cell ST.out.b5 1
  have cx2 : ((w5.alloc (.cells #[.string s1, .int .u32 s2, .int .u32 s3, .int .u64 s4] 41 (0, 0))).alloc (.cells #[.int .u8 t0, .int .u8 t1, .int .u32 t2, .slice As tb.length cs, .string tt] 35 (0, 0))).cell? ⟨w.heap.size + 1, 2, none⟩ = some (.int .u32 x2) := blk_cell ST.out.b5 2
  have cx3 : ((w5.alloc (.cells #[.string s1, .int .u32 s2, .int .u32 s3, .int .u64 s4] 41 (0, 0))).alloc (.cells #[.int .u8 t0, .int .u8 t1, .int .u32 t2, .slice As tb.length cs, .string tt] 35 (0, 0))).cell? ⟨w.heap.size + 1, 3, none⟩ = some (.slice A3 l3.length c3) := blk_cell ST.out.b5 3
  have cx4 : ((w5.alloc (.cells #[.string s1, .int .u32 s2, .int .u32 s3, .int .u64 s4] 41 (0, 0))).alloc (.cells #[.int .u8 t0, .int .u8 t1, .int .u32 t2, .slice As tb.length cs, .string tt] 35 (0, 0))).cell? ⟨w.heap.size + 1, 4, none⟩ = some (.string x4) := blk_cell ST.out.b5 4
  go_wp2_with fail
  refine (chantryref06_Send.callsC 6000 k0 nx top came x0 x1 A3 c3 l3 s1 s2 s3 s4 t0 t1 t2 tb tt f _ ST.out.cx HLX.out (HS2.out (by first | rfl | trivial))).mono ?_
  rintro er w7 ⟨vZ, rfl, ⟨Az, cz, rfl, hlz, hCz⟩, hb⟩
  have LZ := Lib.hid hlz; have CZ := Lib.hid hCz
  clear ck0 ck1 ck2 ck3 cx0 cx1 cx2 cx3 cx4
  have hb8 : Below w7.heap.size w7 ((w7.alloc (.cells #[.string s1, .int .u32 s2, .int .u32 s3, .int .u64 s4] 40 (0, 0))).alloc (.cells #[.int .u8 t0, .int .u8 t1, .int .u32 t2, .slice Az tb.length cz, .string tt] 26 (0, 0))) := below_alloc (below_alloc (Below.refl _ _) _) _
  have hb68 := below_alloc (below_alloc hb (.cells #[.string s1, .int .u32 s2, .int .u32 s3, .int .u64 s4] 40 (0, 0))) (.cells #[.int .u8 t0, .int .u8 t1, .int .u32 t2, .slice Az tb.length cz, .string tt] 26 (0, 0))
  have n8 := blk_new w7 (.cells #[.string s1, .int .u32 s2, .int .u32 s3, .int .u64 s4] 40 (0, 0))
  have n9 := blk_new (w7.alloc (.cells #[.string s1, .int .u32 s2, .int .u32 s3, .int .u64 s4] 40 (0, 0))) (.cells #[.int .u8 t0, .int .u8 t1, .int .u32 t2, .slice Az tb.length cz, .string tt] 26 (0, 0))
  rw [World.size_alloc] at n9
  have B10 : BlkA ((w7.alloc (.cells #[.string s1, .int .u32 s2, .int .u32 s3, .int .u64 s4] 40 (0, 0))).alloc (.cells #[.int .u8 t0, .int .u8 t1, .int .u32 t2, .slice Az tb.length cz, .string tt] 26 (0, 0))) w7.heap.size #[.string s1, .int .u32 s2, .int .u32 s3, .int .u64 s4] 40 := blk_alloc n8 _
  have B11 : BlkA ((w7.alloc (.cells #[.string s1, .int .u32 s2, .int .u32 s3, .int .u64 s4] 40 (0, 0))).alloc (.cells #[.int .u8 t0, .int .u8 t1, .int .u32 t2, .slice Az tb.length cz, .string tt] 26 (0, 0))) (w7.heap.size + 1) #[.int .u8 t0, .int .u8 t1, .int .u32 t2, .slice Az tb.length cz, .string tt] 26 := n9
  have HB10 := Lib.hid B10; have HB11 := Lib.hid B11
  replace HB7 := Lib.hid (HB7.out.step hb68)
  replace HB8 := Lib.hid (HB8.out.step hb68)
  replace ST := Lib.hid (ST.out.step hb68)
  replace CS := Lib.hid (Kd.C_below CS.out hb68)
  replace CZ := Lib.hid (Kd.C_below CZ.out hb8)
  clear n8 n9 B10 B11 hb8 hb68 hb hlz hCz
  have ck0 : ((w7.alloc (.cells #[.string s1, .int .u32 s2, .int .u32 s3, .int .u64 s4] 40 (0, 0))).alloc (.cells #[.int .u8 t0, .int .u8 t1, .int .u32 t2, .slice Az tb.length cz, .string tt] 26 (0, 0))).cell? ⟨w.heap.size, 0, none⟩ = some (.string k0) := blk_cell ST.out.b3 0
  have ck1 : ((w7.alloc (.cells #[.string s1, .int .u32 s2, .int .u32 s3, .int .u64 s4] 40 (0, 0))).alloc (.cells #[.int .u8 t0, .int .u8 t1, .int .u32 t2, .slice Az tb.length cz, .string tt] 26 (0, 0))).cell? ⟨w.heap.size, 1, none⟩ = some (.int .u32 nx) := blk_cell ST.out.b3 1
  have ck2 : ((w7.alloc (.cells #[.string s1, .int .u32 s2, .int .u32 s3, .int .u64 s4] 40 (0, 0))).alloc (.cells #[.int .u8 t0, .int .u8 t1, .int .u32 t2, .slice Az tb.length cz, .string tt] 26 (0, 0))).cell? ⟨w.heap.size, 2, none⟩ = some (.int .u32 top) := blk_cell ST.out.b3 2
  have ck3 : ((w7.alloc (.cells #[.string s1, .int .u32 s2, .int .u32 s3, .int .u64 s4] 40 (0, 0))).alloc (.cells #[.int .u8 t0, .int .u8 t1, .int .u32 t2, .slice Az tb.length cz, .string tt] 26 (0, 0))).cell? ⟨w.heap.size, 3, none⟩ = some (.int .u64 came) := blk_cell ST.out.b3 3
  have cx0 : ((w7.alloc (.cells #[.string s1, .int .u32 s2, .int .u32 s3, .int .u64 s4] 40 (0, 0))).alloc (.cells #[.int .u8 t0, .int .u8 t1, .int .u32 t2, .slice Az tb.length cz, .string tt] 26 (0, 0))).cell? ⟨w.heap.size + 1, 0, none⟩ = some (.int .u8 x0) := blk_cell ST.out.b5 0
  have cx1 : ((w7.alloc (.cells #[.string s1, .int .u32 s2, .int .u32 s3, .int .u64 s4] 40 (0, 0))).alloc (.cells #[.int .u8 t0, .int .u8 t1, .int .u32 t2, .slice Az tb.length cz, .string tt] 26 (0, 0))).cell? ⟨w.heap.size + 1, 1, none⟩ = some (.int .u8 x1) := blk_cell ST.out.b5 1
  have cx2 : ((w7.alloc (.cells #[.string s1, .int .u32 s2, .int .u32 s3, .int .u64 s4] 40 (0, 0))).alloc (.cells #[.int .u8 t0, .int .u8 t1, .int .u32 t2, .slice Az tb.length cz, .string tt] 26 (0, 0))).cell? ⟨w.heap.size + 1, 2, none⟩ = some (.int .u32 x2) := blk_cell ST.out.b5 2
  have cx3 : ((w7.alloc (.cells #[.string s1, .int .u32 s2, .int .u32 s3, .int .u64 s4] 40 (0, 0))).alloc (.cells #[.int .u8 t0, .int .u8 t1, .int .u32 t2, .slice Az tb.length cz, .string tt] 26 (0, 0))).cell? ⟨w.heap.size + 1, 3, none⟩ = some (.slice A3 l3.length c3) := blk_cell ST.out.b5 3
  have cx4 : ((w7.alloc (.cells #[.string s1, .int .u32 s2, .int .u32 s3, .int .u64 s4] 40 (0, 0))).alloc (.cells #[.int .u8 t0, .int .u8 t1, .int .u32 t2, .slice Az tb.length cz, .string tt] 26 (0, 0))).cell? ⟨w.heap.size + 1, 4, none⟩ = some (.string x4) := blk_cell ST.out.b5 4
  go_wp2_with fail
  refine (link_Accept.calls 6000 k0 nx top came me x0 x1 x2 A3 c3 l3 x4 a1 a2 a3 a4 g _ ST.out.cx HLX.out HA.out).mono ?_
  rintro er w9 ⟨rfl, hb⟩
  clear ck0 ck1 ck2 ck3 cx0 cx1 cx2 cx3 cx4
  have hb10 := below_alloc hb (.cells #[.string a1, .int .u32 a2, .int .u32 a3, .int .u64 a4] 41 (0, 0))
  have B13 : BlkA (w9.alloc (.cells #[.string a1, .int .u32 a2, .int .u32 a3, .int .u64 a4] 41 (0, 0))) w9.heap.size #[.string a1, .int .u32 a2, .int .u32 a3, .int .u64 a4] 41 := blk_new w9 _
  have HB13 := Lib.hid B13
  replace HB7 := Lib.hid (HB7.out.step hb10)
  replace HB8 := Lib.hid (HB8.out.step hb10)
  replace HB10 := Lib.hid (HB10.out.step hb10)
  replace HB11 := Lib.hid (HB11.out.step hb10)
  replace ST := Lib.hid (ST.out.step hb10)
  replace CS := Lib.hid (Kd.C_below CS.out hb10)
  replace CZ := Lib.hid (Kd.C_below CZ.out hb10)
  clear B13 hb10 hb
  have ck0 : (w9.alloc (.cells #[.string a1, .int .u32 a2, .int .u32 a3, .int .u64 a4] 41 (0, 0))).cell? ⟨w.heap.size, 0, none⟩ = some (.string k0) := blk_cell ST.out.b3 0
  have ck1 : (w9.alloc (.cells #[.string a1, .int .u32 a2, .int .u32 a3, .int .u64 a4] 41 (0, 0))).cell? ⟨w.heap.size, 1, none⟩ = some (.int .u32 nx) := blk_cell ST.out.b3 1
  have ck2 : (w9.alloc (.cells #[.string a1, .int .u32 a2, .int .u32 a3, .int .u64 a4] 41 (0, 0))).cell? ⟨w.heap.size, 2, none⟩ = some (.int .u32 top) := blk_cell ST.out.b3 2
  have ck3 : (w9.alloc (.cells #[.string a1, .int .u32 a2, .int .u32 a3, .int .u64 a4] 41 (0, 0))).cell? ⟨w.heap.size, 3, none⟩ = some (.int .u64 came) := blk_cell ST.out.b3 3
  have cx0 : (w9.alloc (.cells #[.string a1, .int .u32 a2, .int .u32 a3, .int .u64 a4] 41 (0, 0))).cell? ⟨w.heap.size + 1, 0, none⟩ = some (.int .u8 x0) := blk_cell ST.out.b5 0
  have cx1 : (w9.alloc (.cells #[.string a1, .int .u32 a2, .int .u32 a3, .int .u64 a4] 41 (0, 0))).cell? ⟨w.heap.size + 1, 1, none⟩ = some (.int .u8 x1) := blk_cell ST.out.b5 1
  have cx2 : (w9.alloc (.cells #[.string a1, .int .u32 a2, .int .u32 a3, .int .u64 a4] 41 (0, 0))).cell? ⟨w.heap.size + 1, 2, none⟩ = some (.int .u32 x2) := blk_cell ST.out.b5 2
  have cx3 : (w9.alloc (.cells #[.string a1, .int .u32 a2, .int .u32 a3, .int .u64 a4] 41 (0, 0))).cell? ⟨w.heap.size + 1, 3, none⟩ = some (.slice A3 l3.length c3) := blk_cell ST.out.b5 3
  have cx4 : (w9.alloc (.cells #[.string a1, .int .u32 a2, .int .u32 a3, .int .u64 a4] 41 (0, 0))).cell? ⟨w.heap.size + 1, 4, none⟩ = some (.string x4) := blk_cell ST.out.b5 4
  go_wp2_with fail
  refine (chantryref06_Accept.calls 6000 k0 nx top came me x0 x1 x2 A3 c3 l3 x4 a1 a2 a3 a4 g _ ST.out.cx HLX.out HA2.out).mono ?_
  rintro er w11 ⟨rfl, hb⟩
  clear ck0 ck1 ck2 ck3 cx0 cx1 cx2 cx3 cx4
  have hb12 := below_alloc hb (.cells #[.string a1, .int .u32 a2, .int .u32 a3, .int .u64 a4] 40 (0, 0))
  have B15 : BlkA (w11.alloc (.cells #[.string a1, .int .u32 a2, .int .u32 a3, .int .u64 a4] 40 (0, 0))) w11.heap.size #[.string a1, .int .u32 a2, .int .u32 a3, .int .u64 a4] 40 := blk_new w11 _
  have HB15 := Lib.hid B15
  replace HB7 := Lib.hid (HB7.out.step hb12)
  replace HB8 := Lib.hid (HB8.out.step hb12)
  replace HB10 := Lib.hid (HB10.out.step hb12)
  replace HB11 := Lib.hid (HB11.out.step hb12)
  replace HB13 := Lib.hid (HB13.out.step hb12)
  replace ST := Lib.hid (ST.out.step hb12)
  replace CS := Lib.hid (Kd.C_below CS.out hb12)
  replace CZ := Lib.hid (Kd.C_below CZ.out hb12)
  clear B15 hb12 hb
  have d7_0 : (w11.alloc (.cells #[.string a1, .int .u32 a2, .int .u32 a3, .int .u64 a4] 40 (0, 0))).cell? ⟨w5.heap.size, 0, none⟩ = some (.string s1) := blk_cell HB7.out 0
  have d7_1 : (w11.alloc (.cells #[.string a1, .int .u32 a2, .int .u32 a3, .int .u64 a4] 40 (0, 0))).cell? ⟨w5.heap.size, 1, none⟩ = some (.int .u32 s2) := blk_cell HB7.out 1
  have d7_2 : (w11.alloc (.cells #[.string a1, .int .u32 a2, .int .u32 a3, .int .u64 a4] 40 (0, 0))).cell? ⟨w5.heap.size, 2, none⟩ = some (.int .u32 s3) := blk_cell HB7.out 2
  have d7_3 : (w11.alloc (.cells #[.string a1, .int .u32 a2, .int .u32 a3, .int .u64 a4] 40 (0, 0))).cell? ⟨w5.heap.size, 3, none⟩ = some (.int .u64 s4) := blk_cell HB7.out 3
  have d8_0 : (w11.alloc (.cells #[.string a1, .int .u32 a2, .int .u32 a3, .int .u64 a4] 40 (0, 0))).cell? ⟨w5.heap.size + 1, 0, none⟩ = some (.int .u8 t0) := blk_cell HB8.out 0
  have d8_1 : (w11.alloc (.cells #[.string a1, .int .u32 a2, .int .u32 a3, .int .u64 a4] 40 (0, 0))).cell? ⟨w5.heap.size + 1, 1, none⟩ = some (.int .u8 t1) := blk_cell HB8.out 1
  have d8_2 : (w11.alloc (.cells #[.string a1, .int .u32 a2, .int .u32 a3, .int .u64 a4] 40 (0, 0))).cell? ⟨w5.heap.size + 1, 2, none⟩ = some (.int .u32 t2) := blk_cell HB8.out 2
  have d8_3 : (w11.alloc (.cells #[.string a1, .int .u32 a2, .int .u32 a3, .int .u64 a4] 40 (0, 0))).cell? ⟨w5.heap.size + 1, 3, none⟩ = some (.slice As tb.length cs) := blk_cell HB8.out 3
  have d8_4 : (w11.alloc (.cells #[.string a1, .int .u32 a2, .int .u32 a3, .int .u64 a4] 40 (0, 0))).cell? ⟨w5.heap.size + 1, 4, none⟩ = some (.string tt) := blk_cell HB8.out 4
  have d10_0 : (w11.alloc (.cells #[.string a1, .int .u32 a2, .int .u32 a3, .int .u64 a4] 40 (0, 0))).cell? ⟨w7.heap.size, 0, none⟩ = some (.string s1) := blk_cell HB10.out 0
  have d10_1 : (w11.alloc (.cells #[.string a1, .int .u32 a2, .int .u32 a3, .int .u64 a4] 40 (0, 0))).cell? ⟨w7.heap.size, 1, none⟩ = some (.int .u32 s2) := blk_cell HB10.out 1
  have d10_2 : (w11.alloc (.cells #[.string a1, .int .u32 a2, .int .u32 a3, .int .u64 a4] 40 (0, 0))).cell? ⟨w7.heap.size, 2, none⟩ = some (.int .u32 s3) := blk_cell HB10.out 2
  have d10_3 : (w11.alloc (.cells #[.string a1, .int .u32 a2, .int .u32 a3, .int .u64 a4] 40 (0, 0))).cell? ⟨w7.heap.size, 3, none⟩ = some (.int .u64 s4) := blk_cell HB10.out 3
  have d11_0 : (w11.alloc (.cells #[.string a1, .int .u32 a2, .int .u32 a3, .int .u64 a4] 40 (0, 0))).cell? ⟨w7.heap.size + 1, 0, none⟩ = some (.int .u8 t0) := blk_cell HB11.out 0
  have d11_1 : (w11.alloc (.cells #[.string a1, .int .u32 a2, .int .u32 a3, .int .u64 a4] 40 (0, 0))).cell? ⟨w7.heap.size + 1, 1, none⟩ = some (.int .u8 t1) := blk_cell HB11.out 1
  have d11_2 : (w11.alloc (.cells #[.string a1, .int .u32 a2, .int .u32 a3, .int .u64 a4] 40 (0, 0))).cell? ⟨w7.heap.size + 1, 2, none⟩ = some (.int .u32 t2) := blk_cell HB11.out 2
  have d11_3 : (w11.alloc (.cells #[.string a1, .int .u32 a2, .int .u32 a3, .int .u64 a4] 40 (0, 0))).cell? ⟨w7.heap.size + 1, 3, none⟩ = some (.slice Az tb.length cz) := blk_cell HB11.out 3
  have d11_4 : (w11.alloc (.cells #[.string a1, .int .u32 a2, .int .u32 a3, .int .u64 a4] 40 (0, 0))).cell? ⟨w7.heap.size + 1, 4, none⟩ = some (.string tt) := blk_cell HB11.out 4
  have d13_0 : (w11.alloc (.cells #[.string a1, .int .u32 a2, .int .u32 a3, .int .u64 a4] 40 (0, 0))).cell? ⟨w9.heap.size, 0, none⟩ = some (.string a1) := blk_cell HB13.out 0
  have d13_1 : (w11.alloc (.cells #[.string a1, .int .u32 a2, .int .u32 a3, .int .u64 a4] 40 (0, 0))).cell? ⟨w9.heap.size, 1, none⟩ = some (.int .u32 a2) := blk_cell HB13.out 1
  have d13_2 : (w11.alloc (.cells #[.string a1, .int .u32 a2, .int .u32 a3, .int .u64 a4] 40 (0, 0))).cell? ⟨w9.heap.size, 2, none⟩ = some (.int .u32 a3) := blk_cell HB13.out 2
  have d13_3 : (w11.alloc (.cells #[.string a1, .int .u32 a2, .int .u32 a3, .int .u64 a4] 40 (0, 0))).cell? ⟨w9.heap.size, 3, none⟩ = some (.int .u64 a4) := blk_cell HB13.out 3
  have d15_0 : (w11.alloc (.cells #[.string a1, .int .u32 a2, .int .u32 a3, .int .u64 a4] 40 (0, 0))).cell? ⟨w11.heap.size, 0, none⟩ = some (.string a1) := blk_cell HB15.out 0
  have d15_1 : (w11.alloc (.cells #[.string a1, .int .u32 a2, .int .u32 a3, .int .u64 a4] 40 (0, 0))).cell? ⟨w11.heap.size, 1, none⟩ = some (.int .u32 a2) := blk_cell HB15.out 1
  have d15_2 : (w11.alloc (.cells #[.string a1, .int .u32 a2, .int .u32 a3, .int .u64 a4] 40 (0, 0))).cell? ⟨w11.heap.size, 2, none⟩ = some (.int .u32 a3) := blk_cell HB15.out 2
  have d15_3 : (w11.alloc (.cells #[.string a1, .int .u32 a2, .int .u32 a3, .int .u64 a4] 40 (0, 0))).cell? ⟨w11.heap.size, 3, none⟩ = some (.int .u64 a4) := blk_cell HB15.out 3
  have q1 : s1.toList == s1.toList := beq_self_eq_true _
  have q2 : a1.toList == a1.toList := beq_self_eq_true _
  go_wp2_with fail
  refine (chantrylaw06_same.calls t0 t1 t2 As cs tb tt t0 t1 t2 Az cz tb tt true _ CS.out LS.out CZ.out LZ.out HSM.out).mono ?_
  rintro er w13 ⟨rfl, hb⟩
  replace HB13 := Lib.hid (HB13.out.step hb)
  replace HB15 := Lib.hid (HB15.out.step hb)
  have hfin := ST.out.hB.trans (hb.mono ST.out.hB.size)
  have d13_0z : w13.cell? ⟨w9.heap.size, 0, none⟩ = some (.string a1) := blk_cell HB13.out 0
  have d13_1z : w13.cell? ⟨w9.heap.size, 1, none⟩ = some (.int .u32 a2) := blk_cell HB13.out 1
  have d13_2z : w13.cell? ⟨w9.heap.size, 2, none⟩ = some (.int .u32 a3) := blk_cell HB13.out 2
  have d13_3z : w13.cell? ⟨w9.heap.size, 3, none⟩ = some (.int .u64 a4) := blk_cell HB13.out 3
  have d15_0z : w13.cell? ⟨w11.heap.size, 0, none⟩ = some (.string a1) := blk_cell HB15.out 0
  have d15_1z : w13.cell? ⟨w11.heap.size, 1, none⟩ = some (.int .u32 a2) := blk_cell HB15.out 1
  have d15_2z : w13.cell? ⟨w11.heap.size, 2, none⟩ = some (.int .u32 a3) := blk_cell HB15.out 2
  have d15_3z : w13.cell? ⟨w11.heap.size, 3, none⟩ = some (.int .u64 a4) := blk_cell HB15.out 3
  go_wp2_with fail
  go_ret
  exact ⟨rfl, hfin⟩
theorem ref_send_spec (k : Nat) (hk : 4300 ≤ k) (key : ByteArray) (nx top came a b : Int) (l : List Int) (hn : 0 ≤ nx ∧ nx < 4294967296) : chantryref06_Send.f k key nx top came a b l = some (sendOf key nx top came a b l) := by
  unfold chantryref06_Send.f sendOf
  rw [ref_two_spec, Option.bind_some]
  by_cases h : twoB a b = true
  · rw [if_pos h, if_pos h]
    by_cases h2 : nx = 4294967295
    · rw [if_pos h2, if_pos h2]
    · rw [if_neg h2, if_neg h2, ref_tag_spec k hk _ _ _ _ _ _ (by omega) (by omega), Option.bind_some]
      by_cases h3 : (tagOf key a b ((nx + 1) % 4294967296) l).2 = 0
      · rw [if_pos h3, if_pos h3]
      · rw [if_neg h3, if_neg h3]
  · rw [if_neg h, if_neg h]
theorem acts_all (k0 : ByteArray) (nx top came me x0 x1 x2 : Int) (A3 : Option Addr) (c3 : Nat) (l3 : List Int) (x4 : ByteArray) (w : World)
    (hcx : Kd.C (Kd.int .u8) w A3 l3.length l3) (hlx : l3.length ≤ c3) (hn : 0 ≤ nx ∧ nx < 4294967296) (ht : 0 ≤ top ∧ top < 4294967296) (hc : Word came) (h2 : 0 ≤ x2 ∧ x2 < 4294967296) :
    Calls Try.prog 4 #[.agg #[.string k0, .int .u32 nx, .int .u32 top, .int .u64 came], .int .u8 me, .agg #[.int .u8 x0, .int .u8 x1, .int .u32 x2, .slice A3 l3.length c3, .string x4]] w fun e w' => e = .returned (.bool true) ∧ Below w.heap.size w w' := by
  obtain ⟨qx, hqx⟩ : ∃ q, chantrylaw06_few.f x0 x1 x2 l3 x4 = some q := by
    unfold chantrylaw06_few.f; split <;> exact ⟨_, rfl⟩
  obtain ⟨s1, s2, s3, s4, t0, t1, t2, tb, tt, f, hs⟩ : ∃ s1 s2 s3 s4 t0 t1 t2 tb tt f, sendOf k0 nx top came x0 x1 l3 = (s1, s2, s3, s4, t0, t1, t2, tb, tt, f) := ⟨_, _, _, _, _, _, _, _, _, _, rfl⟩
  have hlen : qx = true → l3.length < 140737488355328 := by
    rintro rfl
    unfold chantrylaw06_few.f at hqx
    split at hqx
    · omega
    · simp at hqx
  refine acts_core k0 nx top came me x0 x1 x2 A3 c3 l3 x4 w hcx hlx qx hqx s1 s2 s3 s4 t0 t1 t2 tb tt f (fun q => by rw [← hs]; exact send_spec _ _ _ _ _ _ _ (hlen q)) (fun q => by rw [← hs]; exact ref_send_spec 6000 (by decide) _ _ _ _ _ _ _ hn) _ _ _ _ _ (accept_spec 6000 (by decide) _ _ _ _ _ _ _ _ _ _) (ref_accept_spec 6000 (by decide) _ _ _ _ _ _ _ _ _ _ hc h2 ht) ?_
  unfold SameA chantrylaw06_same.f
  rw [if_pos rfl, if_pos rfl, if_pos rfl, if_pos rfl, beq_self_eq_true]
end Go.Proofs.Ytimfhdpgkoonaaa.L06
