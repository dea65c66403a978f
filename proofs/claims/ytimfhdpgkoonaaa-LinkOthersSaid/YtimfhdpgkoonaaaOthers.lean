/- LinkOthers: its walk, by hand. -/
import Derived.Test.YtimfhdpgkoonaaaAl06
import Derived.Deep.QuietTactic
import Derived.BigQuiet
set_option linter.unusedVariables false
set_option linter.unusedSimpArgs false
namespace Go.Proofs.Ytimfhdpgkoonaaa.L06
open Go.RowKit Go.Proofs.Ytimfhdpgkoonaaa.Pr Go.Proofs.YtimfhdpgkoonaaaW.PrintWords Go.Proofs.YtimfhdpgkoonaaaW.PrintLast Go.Proofs.YtimfhdpgkoonaaaW.PrintMore Go.Proofs.Ytimfhdpgkoonaaa.TT Go.Proofs.Ytimfhdpgkoonaaa.Ev03

abbrev LtV (a b s : Int) (A : Option Addr) (l : List Int) (c : Nat) (t : ByteArray) : Array Value := #[.int .u8 a, .int .u8 b, .int .u32 s, .slice A l.length c, .string t]
/-- The boxes of the parameters: two keys, two letters; and the letters' bodies. -/
structure Oth (w W : World) (k0 k1 : ByteArray) (x0 x1 x2 : Int) (A3 : Option Addr) (l3 : List Int) (c3 : Nat) (x4 : ByteArray) (y0 y1 y2 : Int) (B3 : Option Addr) (m3 : List Int) (d3 : Nat) (y4 : ByteArray) : Prop where
  hB : Below w.heap.size w W
  b3 : W.heap[w.heap.size]? = some (.cells #[.string k0, .string k1] 58 (0, 0))
  b4 : W.heap[w.heap.size + 1]? = some (.cells (LtV x0 x1 x2 A3 l3 c3 x4) 26 (0, 0))
  b5 : W.heap[w.heap.size + 1 + 1]? = some (.cells (LtV y0 y1 y2 B3 m3 d3 y4) 26 (0, 0))
  cx : Kd.C (Kd.int .u8) W A3 l3.length l3
  cy : Kd.C (Kd.int .u8) W B3 m3.length m3
section
variable {w W W' : World} {k0 k1 x4 y4 : ByteArray} {x0 x1 x2 y0 y1 y2 : Int} {A3 B3 : Option Addr} {l3 m3 : List Int} {c3 d3 : Nat}
theorem Oth.step (h : Oth w W k0 k1 x0 x1 x2 A3 l3 c3 x4 y0 y1 y2 B3 m3 d3 y4) (hb : Below W.heap.size W W') : Oth w W' k0 k1 x0 x1 x2 A3 l3 c3 x4 y0 y1 y2 B3 m3 d3 y4 :=
  ⟨h.hB.trans (hb.mono h.hB.size), blk_below h.b3 hb, blk_below h.b4 hb, blk_below h.b5 hb, Kd.C_below h.cx hb, Kd.C_below h.cy hb⟩
end
def Blk (W : World) (g : Nat) (cs : Array Value) (t : TypeId) : Prop := W.heap[g]? = some (.cells cs t (0, 0))
theorem Blk.step {W W' : World} {g : Nat} {cs : Array Value} {t : TypeId} (h : Blk W g cs t) (hb : Below W.heap.size W W') : Blk W' g cs t := blk_below h hb
def OthFact (f g h y0 t0 y1 t1 y2 t2 : Int) (m3 tb : List Int) (k0 k1 : ByteArray) : Prop := f = 0 → h = 0 ∧ (g == 0) = (y0 == t0 && (y1 == t1 && (y2 == t2 && ((strOfNums m3).toList == (strOfNums tb).toList && k0.toList == k1.toList))))
def FewFact (a b s : Int) (l : List Int) (t : ByteArray) (q : Bool) : Prop := chantrylaw06_few.f a b s l t = some q
set_option maxHeartbeats 3200000 in
set_option maxRecDepth 100000 in
theorem others_core (k0 k1 : ByteArray) (x0 x1 x2 : Int) (A3 : Option Addr) (c3 : Nat) (l3 : List Int) (x4 : ByteArray) (y0 y1 y2 : Int) (B3 : Option Addr) (d3 : Nat) (m3 : List Int) (y4 : ByteArray) (w : World)
    (hcx : Kd.C (Kd.int .u8) w A3 l3.length l3) (hlx : l3.length ≤ c3) (hcy : Kd.C (Kd.int .u8) w B3 m3.length m3) (hly : m3.length ≤ d3) (qx qy : Bool) (hqx : FewFact x0 x1 x2 l3 x4 qx) (hqy : FewFact y0 y1 y2 m3 y4 qy)
    (s1 : ByteArray) (s2 s3 s4 t0 t1 t2 : Int) (tb : List Int) (tt : ByteArray) (f : Int) (hs : qx = true → link_Send.f k0 x2 0 0 x0 x1 l3 = some (s1, s2, s3, s4, t0, t1, t2, tb, tt, f))
    (a1 : ByteArray) (a2 a3 a4 g : Int) (ha : link_Accept.f 6000 k1 0 0 0 y1 y0 y1 y2 m3 tt = some (a1, a2, a3, a4, g))
    (b1 : ByteArray) (b2 b3 b4 h : Int) (hbb : link_Accept.f 6000 k0 0 0 0 t1 t0 t1 t2 tb tt = some (b1, b2, b3, b4, h))
    (hF : OthFact f g h y0 t0 y1 t1 y2 t2 m3 tb k0 k1) :
    Calls Try.prog 6 #[.agg #[.string k0, .string k1], .agg #[.int .u8 x0, .int .u8 x1, .int .u32 x2, .slice A3 l3.length c3, .string x4], .agg #[.int .u8 y0, .int .u8 y1, .int .u32 y2, .slice B3 m3.length d3, .string y4]] w fun e w' => e = .returned (.bool true) ∧ Below w.heap.size w w' := by
  have HS := Lib.hid hs; have HA := Lib.hid ha; have HH := Lib.hid hbb; have HF := Lib.hid hF; have HLX := Lib.hid hlx; have HLY := Lib.hid hly
  clear hs ha hbb hF hlx hly
  have S0 : Oth w (((w.alloc (.cells #[.string k0, .string k1] 58 (0, 0))).alloc (.cells (LtV x0 x1 x2 A3 l3 c3 x4) 26 (0, 0))).alloc (.cells (LtV y0 y1 y2 B3 m3 d3 y4) 26 (0, 0))) k0 k1 x0 x1 x2 A3 l3 c3 x4 y0 y1 y2 B3 m3 d3 y4 := by
    have hb1 := below_alloc (Below.refl w.heap.size w) (.cells #[.string k0, .string k1] 58 (0, 0))
    have n1 := blk_new w (.cells #[.string k0, .string k1] 58 (0, 0))
    have n2 := blk_new (w.alloc (.cells #[.string k0, .string k1] 58 (0, 0))) (.cells (LtV x0 x1 x2 A3 l3 c3 x4) 26 (0, 0))
    have n3 := blk_new ((w.alloc (.cells #[.string k0, .string k1] 58 (0, 0))).alloc (.cells (LtV x0 x1 x2 A3 l3 c3 x4) 26 (0, 0))) (.cells (LtV y0 y1 y2 B3 m3 d3 y4) 26 (0, 0))
    rw [World.size_alloc] at n2
    rw [World.size_alloc, World.size_alloc] at n3
    have hb3 : Below w.heap.size w (((w.alloc (.cells #[.string k0, .string k1] 58 (0, 0))).alloc (.cells (LtV x0 x1 x2 A3 l3 c3 x4) 26 (0, 0))).alloc (.cells (LtV y0 y1 y2 B3 m3 d3 y4) 26 (0, 0))) := below_alloc (below_alloc hb1 _) _
    exact ⟨hb3, blk_alloc (blk_alloc n1 _) _, blk_alloc n2 _, n3, Kd.C_below hcx hb3, Kd.C_below hcy hb3⟩
  have ST := Lib.hid S0
  clear S0 hcx hcy
  go_enter Try.func6, Try.ntmps6
  go_wp2_with fail
  generalize ((w.alloc (.cells #[.string k0, .string k1] 58 (0, 0))).alloc (.cells (LtV x0 x1 x2 A3 l3 c3 x4) 26 (0, 0))).alloc (.cells (LtV y0 y1 y2 B3 m3 d3 y4) 26 (0, 0)) = w0 at *
  refine (chantrylaw06_alive.calls 6000 true w0 (alive06 6000 (by decide))).mono ?_
  rintro er w1 ⟨rfl, hb⟩
  replace ST := Lib.hid (ST.out.step hb)
  clear hb
  have ck0 : w1.cell? ⟨w.heap.size, 0, none⟩ = some (.string k0) := blk_cell ST.out.b3 0
  have ck1 : w1.cell? ⟨w.heap.size, 1, none⟩ = some (.string k1) := blk_cell ST.out.b3 1
  have cx0 : w1.cell? ⟨w.heap.size + 1, 0, none⟩ = some (.int .u8 x0) := blk_cell ST.out.b4 0
  have cx1 : w1.cell? ⟨w.heap.size + 1, 1, none⟩ = some (.int .u8 x1) := blk_cell ST.out.b4 1
  have cx2 : w1.cell? ⟨w.heap.size + 1, 2, none⟩ = some (.int .u32 x2) := blk_cell ST.out.b4 2
  have cx3 : w1.cell? ⟨w.heap.size + 1, 3, none⟩ = some (.slice A3 l3.length c3) := blk_cell ST.out.b4 3
  have cx4 : w1.cell? ⟨w.heap.size + 1, 4, none⟩ = some (.string x4) := blk_cell ST.out.b4 4
  have cy0 : w1.cell? ⟨w.heap.size + 1 + 1, 0, none⟩ = some (.int .u8 y0) := blk_cell ST.out.b5 0
  have cy1 : w1.cell? ⟨w.heap.size + 1 + 1, 1, none⟩ = some (.int .u8 y1) := blk_cell ST.out.b5 1
  have cy2 : w1.cell? ⟨w.heap.size + 1 + 1, 2, none⟩ = some (.int .u32 y2) := blk_cell ST.out.b5 2
  have cy3 : w1.cell? ⟨w.heap.size + 1 + 1, 3, none⟩ = some (.slice B3 m3.length d3) := blk_cell ST.out.b5 3
  have cy4 : w1.cell? ⟨w.heap.size + 1 + 1, 4, none⟩ = some (.string y4) := blk_cell ST.out.b5 4
  go_wp2_with fail
  refine (chantrylaw06_few.calls x0 x1 x2 A3 c3 l3 x4 qx w1 ST.out.cx HLX.out hqx).mono ?_
  rintro er w2 ⟨rfl, hb⟩
  replace ST := Lib.hid (ST.out.step hb)
  clear hb
  clear ck0 ck1 cx0 cx1 cx2 cx3 cx4 cy0 cy1 cy2 cy3 cy4
  have ck0 : w2.cell? ⟨w.heap.size, 0, none⟩ = some (.string k0) := blk_cell ST.out.b3 0
  have ck1 : w2.cell? ⟨w.heap.size, 1, none⟩ = some (.string k1) := blk_cell ST.out.b3 1
  have cx0 : w2.cell? ⟨w.heap.size + 1, 0, none⟩ = some (.int .u8 x0) := blk_cell ST.out.b4 0
  have cx1 : w2.cell? ⟨w.heap.size + 1, 1, none⟩ = some (.int .u8 x1) := blk_cell ST.out.b4 1
  have cx2 : w2.cell? ⟨w.heap.size + 1, 2, none⟩ = some (.int .u32 x2) := blk_cell ST.out.b4 2
  have cx3 : w2.cell? ⟨w.heap.size + 1, 3, none⟩ = some (.slice A3 l3.length c3) := blk_cell ST.out.b4 3
  have cx4 : w2.cell? ⟨w.heap.size + 1, 4, none⟩ = some (.string x4) := blk_cell ST.out.b4 4
  have cy0 : w2.cell? ⟨w.heap.size + 1 + 1, 0, none⟩ = some (.int .u8 y0) := blk_cell ST.out.b5 0
  have cy1 : w2.cell? ⟨w.heap.size + 1 + 1, 1, none⟩ = some (.int .u8 y1) := blk_cell ST.out.b5 1
  have cy2 : w2.cell? ⟨w.heap.size + 1 + 1, 2, none⟩ = some (.int .u32 y2) := blk_cell ST.out.b5 2
  have cy3 : w2.cell? ⟨w.heap.size + 1 + 1, 3, none⟩ = some (.slice B3 m3.length d3) := blk_cell ST.out.b5 3
  have cy4 : w2.cell? ⟨w.heap.size + 1 + 1, 4, none⟩ = some (.string y4) := blk_cell ST.out.b5 4
  cases qx with
  | false =>
    go_wp2_with fail
    go_ret
    exact ⟨rfl, ST.out.hB⟩
  | true =>
  go_wp2_with fail
  refine (chantrylaw06_few.calls y0 y1 y2 B3 d3 m3 y4 qy w2 ST.out.cy HLY.out hqy).mono ?_
  rintro er w3 ⟨rfl, hb⟩
  replace ST := Lib.hid (ST.out.step hb)
  clear hb
  clear ck0 ck1 cx0 cx1 cx2 cx3 cx4 cy0 cy1 cy2 cy3 cy4
  have ck0 : w3.cell? ⟨w.heap.size, 0, none⟩ = some (.string k0) := blk_cell ST.out.b3 0
  have ck1 : w3.cell? ⟨w.heap.size, 1, none⟩ = some (.string k1) := blk_cell ST.out.b3 1
  have cx0 : w3.cell? ⟨w.heap.size + 1, 0, none⟩ = some (.int .u8 x0) := blk_cell ST.out.b4 0
  have cx1 : w3.cell? ⟨w.heap.size + 1, 1, none⟩ = some (.int .u8 x1) := blk_cell ST.out.b4 1
  have cx2 : w3.cell? ⟨w.heap.size + 1, 2, none⟩ = some (.int .u32 x2) := blk_cell ST.out.b4 2
  have cx3 : w3.cell? ⟨w.heap.size + 1, 3, none⟩ = some (.slice A3 l3.length c3) := blk_cell ST.out.b4 3
  have cx4 : w3.cell? ⟨w.heap.size + 1, 4, none⟩ = some (.string x4) := blk_cell ST.out.b4 4
  have cy0 : w3.cell? ⟨w.heap.size + 1 + 1, 0, none⟩ = some (.int .u8 y0) := blk_cell ST.out.b5 0
  have cy1 : w3.cell? ⟨w.heap.size + 1 + 1, 1, none⟩ = some (.int .u8 y1) := blk_cell ST.out.b5 1
  have cy2 : w3.cell? ⟨w.heap.size + 1 + 1, 2, none⟩ = some (.int .u32 y2) := blk_cell ST.out.b5 2
  have cy3 : w3.cell? ⟨w.heap.size + 1 + 1, 3, none⟩ = some (.slice B3 m3.length d3) := blk_cell ST.out.b5 3
  have cy4 : w3.cell? ⟨w.heap.size + 1 + 1, 4, none⟩ = some (.string y4) := blk_cell ST.out.b5 4
  cases qy with
  | false =>
    go_wp2_with fail
    go_ret
    exact ⟨rfl, ST.out.hB⟩
  | true =>
  by_cases z0 : (k0.size : Int) > 3000
  · go_wp2_with fail
    go_ret
    exact ⟨rfl, ST.out.hB⟩
  by_cases z1 : (k1.size : Int) > 3000
  · go_wp2_with fail
    go_ret
    exact ⟨rfl, ST.out.hB⟩
  have SE := Lib.hid (ST.out.step (below_alloc (Below.refl _ _) (.cells #[.string k0, .int .u32 x2, .int .u32 0, .int .u64 0] 41 (0, 0))))
  have BE : Blk (w3.alloc (.cells #[.string k0, .int .u32 x2, .int .u32 0, .int .u64 0] 41 (0, 0))) w3.heap.size #[.string k0, .int .u32 x2, .int .u32 0, .int .u64 0] 41 := blk_new w3 _
  have HBE := Lib.hid BE; clear BE
  have ck0e : (w3.alloc (.cells #[.string k0, .int .u32 x2, .int .u32 0, .int .u64 0] 41 (0, 0))).cell? ⟨w.heap.size, 0, none⟩ = some (.string k0) := blk_cell SE.out.b3 0
  have ck1e : (w3.alloc (.cells #[.string k0, .int .u32 x2, .int .u32 0, .int .u64 0] 41 (0, 0))).cell? ⟨w.heap.size, 1, none⟩ = some (.string k1) := blk_cell SE.out.b3 1
  have cx0e : (w3.alloc (.cells #[.string k0, .int .u32 x2, .int .u32 0, .int .u64 0] 41 (0, 0))).cell? ⟨w.heap.size + 1, 0, none⟩ = some (.int .u8 x0) := blk_cell SE.out.b4 0
  have cx1e : (w3.alloc (.cells #[.string k0, .int .u32 x2, .int .u32 0, .int .u64 0] 41 (0, 0))).cell? ⟨w.heap.size + 1, 1, none⟩ = some (.int .u8 x1) := blk_cell SE.out.b4 1
  have cx2e : (w3.alloc (.cells #[.string k0, .int .u32 x2, .int .u32 0, .int .u64 0] 41 (0, 0))).cell? ⟨w.heap.size + 1, 2, none⟩ = some (.int .u32 x2) := blk_cell SE.out.b4 2
  have cx3e : (w3.alloc (.cells #[.string k0, .int .u32 x2, .int .u32 0, .int .u64 0] 41 (0, 0))).cell? ⟨w.heap.size + 1, 3, none⟩ = some (.slice A3 l3.length c3) := blk_cell SE.out.b4 3
  have cx4e : (w3.alloc (.cells #[.string k0, .int .u32 x2, .int .u32 0, .int .u64 0] 41 (0, 0))).cell? ⟨w.heap.size + 1, 4, none⟩ = some (.string x4) := blk_cell SE.out.b4 4
  have cy0e : (w3.alloc (.cells #[.string k0, .int .u32 x2, .int .u32 0, .int .u64 0] 41 (0, 0))).cell? ⟨w.heap.size + 1 + 1, 0, none⟩ = some (.int .u8 y0) := blk_cell SE.out.b5 0
  have cy1e : (w3.alloc (.cells #[.string k0, .int .u32 x2, .int .u32 0, .int .u64 0] 41 (0, 0))).cell? ⟨w.heap.size + 1 + 1, 1, none⟩ = some (.int .u8 y1) := blk_cell SE.out.b5 1
  have cy2e : (w3.alloc (.cells #[.string k0, .int .u32 x2, .int .u32 0, .int .u64 0] 41 (0, 0))).cell? ⟨w.heap.size + 1 + 1, 2, none⟩ = some (.int .u32 y2) := blk_cell SE.out.b5 2
  have cy3e : (w3.alloc (.cells #[.string k0, .int .u32 x2, .int .u32 0, .int .u64 0] 41 (0, 0))).cell? ⟨w.heap.size + 1 + 1, 3, none⟩ = some (.slice B3 m3.length d3) := blk_cell SE.out.b5 3
  have cy4e : (w3.alloc (.cells #[.string k0, .int .u32 x2, .int .u32 0, .int .u64 0] 41 (0, 0))).cell? ⟨w.heap.size + 1 + 1, 4, none⟩ = some (.string y4) := blk_cell SE.out.b5 4
  have ce0e : (w3.alloc (.cells #[.string k0, .int .u32 x2, .int .u32 0, .int .u64 0] 41 (0, 0))).cell? ⟨w3.heap.size, 0, none⟩ = some (.string k0) := blk_cell HBE.out 0
  have ce1e : (w3.alloc (.cells #[.string k0, .int .u32 x2, .int .u32 0, .int .u64 0] 41 (0, 0))).cell? ⟨w3.heap.size, 1, none⟩ = some (.int .u32 x2) := blk_cell HBE.out 1
  have ce2e : (w3.alloc (.cells #[.string k0, .int .u32 x2, .int .u32 0, .int .u64 0] 41 (0, 0))).cell? ⟨w3.heap.size, 2, none⟩ = some (.int .u32 0) := blk_cell HBE.out 2
  have ce3e : (w3.alloc (.cells #[.string k0, .int .u32 x2, .int .u32 0, .int .u64 0] 41 (0, 0))).cell? ⟨w3.heap.size, 3, none⟩ = some (.int .u64 0) := blk_cell HBE.out 3
  go_wp2_with fail
  refine (link_Send.calls k0 x2 0 0 x0 x1 A3 c3 l3 s1 s2 s3 s4 t0 t1 t2 tb tt f _ SE.out.cx HLX.out (HS.out (by first | rfl | trivial))).mono ?_
  rintro er w5 ⟨vS, rfl, hR, hb⟩
  obtain ⟨As, cs, rfl⟩ := Kd.R_slice hR
  have CS := Lib.hid (Kd.R_reads' hR).2.2
  have LS := Lib.hid (Kd.R_reads' hR).2.1
  replace ST := Lib.hid (SE.out.step hb)
  clear SE HBE hb hR ck0 ck1 cx0 cx1 cx2 cx3 cx4 cy0 cy1 cy2 cy3 cy4 ck0e ck1e cx0e cx1e cx2e cx3e cx4e cy0e cy1e cy2e cy3e cy4e ce0e ce1e ce2e ce3e
  have hb6 : Below w5.heap.size w5 ((w5.alloc (.cells #[.string s1, .int .u32 s2, .int .u32 s3, .int .u64 s4] 41 (0, 0))).alloc (.cells #[.int .u8 t0, .int .u8 t1, .int .u32 t2, .slice As tb.length cs, .string tt] 35 (0, 0))) := below_alloc (below_alloc (Below.refl _ _) _) _
  have hb7 : Below w5.heap.size w5 (((w5.alloc (.cells #[.string s1, .int .u32 s2, .int .u32 s3, .int .u64 s4] 41 (0, 0))).alloc (.cells #[.int .u8 t0, .int .u8 t1, .int .u32 t2, .slice As tb.length cs, .string tt] 35 (0, 0))).alloc (.cells #[.int .u8 y0, .int .u8 y1, .int .u32 y2, .slice B3 m3.length d3, .string tt] 35 (0, 0))) := below_alloc hb6 _
  have S6 := Lib.hid (ST.out.step hb6)
  have S7 := Lib.hid (ST.out.step hb7)
  have CS7 := Lib.hid (Kd.C_below CS.out hb7)
  have n9 := blk_new (w5.alloc (.cells #[.string s1, .int .u32 s2, .int .u32 s3, .int .u64 s4] 41 (0, 0))) (.cells #[.int .u8 t0, .int .u8 t1, .int .u32 t2, .slice As tb.length cs, .string tt] 35 (0, 0))
  have n11 := blk_new ((w5.alloc (.cells #[.string s1, .int .u32 s2, .int .u32 s3, .int .u64 s4] 41 (0, 0))).alloc (.cells #[.int .u8 t0, .int .u8 t1, .int .u32 t2, .slice As tb.length cs, .string tt] 35 (0, 0))) (.cells #[.int .u8 y0, .int .u8 y1, .int .u32 y2, .slice B3 m3.length d3, .string tt] 35 (0, 0))
  rw [World.size_alloc] at n9
  rw [World.size_alloc, World.size_alloc] at n11
  have B96 : Blk ((w5.alloc (.cells #[.string s1, .int .u32 s2, .int .u32 s3, .int .u64 s4] 41 (0, 0))).alloc (.cells #[.int .u8 t0, .int .u8 t1, .int .u32 t2, .slice As tb.length cs, .string tt] 35 (0, 0))) (w5.heap.size + 1) #[.int .u8 t0, .int .u8 t1, .int .u32 t2, .slice As tb.length cs, .string tt] 35 := n9
  have B9 : Blk (((w5.alloc (.cells #[.string s1, .int .u32 s2, .int .u32 s3, .int .u64 s4] 41 (0, 0))).alloc (.cells #[.int .u8 t0, .int .u8 t1, .int .u32 t2, .slice As tb.length cs, .string tt] 35 (0, 0))).alloc (.cells #[.int .u8 y0, .int .u8 y1, .int .u32 y2, .slice B3 m3.length d3, .string tt] 35 (0, 0))) (w5.heap.size + 1) #[.int .u8 t0, .int .u8 t1, .int .u32 t2, .slice As tb.length cs, .string tt] 35 := blk_alloc n9 _
  have B11 : Blk (((w5.alloc (.cells #[.string s1, .int .u32 s2, .int .u32 s3, .int .u64 s4] 41 (0, 0))).alloc (.cells #[.int .u8 t0, .int .u8 t1, .int .u32 t2, .slice As tb.length cs, .string tt] 35 (0, 0))).alloc (.cells #[.int .u8 y0, .int .u8 y1, .int .u32 y2, .slice B3 m3.length d3, .string tt] 35 (0, 0))) (w5.heap.size + 1 + 1) #[.int .u8 y0, .int .u8 y1, .int .u32 y2, .slice B3 m3.length d3, .string tt] 35 := n11
  have n11b := blk_new ((w5.alloc (.cells #[.string s1, .int .u32 s2, .int .u32 s3, .int .u64 s4] 41 (0, 0))).alloc (.cells #[.int .u8 t0, .int .u8 t1, .int .u32 t2, .slice As tb.length cs, .string tt] 35 (0, 0))) (.cells #[.int .u8 y0, .int .u8 y1, .int .u32 y2, .slice B3 m3.length d3, .string y4] 35 (0, 0))
  rw [World.size_alloc, World.size_alloc] at n11b
  have ct4 : (((w5.alloc (.cells #[.string s1, .int .u32 s2, .int .u32 s3, .int .u64 s4] 41 (0, 0))).alloc (.cells #[.int .u8 t0, .int .u8 t1, .int .u32 t2, .slice As tb.length cs, .string tt] 35 (0, 0))).alloc (.cells #[.int .u8 y0, .int .u8 y1, .int .u32 y2, .slice B3 m3.length d3, .string y4] 35 (0, 0))).cell? ⟨w5.heap.size + 1, 4, none⟩ = some (.string tt) := blk_cell (blk_alloc n9 _) 4
  have HB9 := Lib.hid B9; have HB11 := Lib.hid B11
  clear n9 n11 n11b B96 B9 B11 hb6 hb7
  have cy0s : ((w5.alloc (.cells #[.string s1, .int .u32 s2, .int .u32 s3, .int .u64 s4] 41 (0, 0))).alloc (.cells #[.int .u8 t0, .int .u8 t1, .int .u32 t2, .slice As tb.length cs, .string tt] 35 (0, 0))).cell? ⟨w.heap.size + 1 + 1, 0, none⟩ = some (.int .u8 y0) := blk_cell S6.out.b5 0
  have cy1s : ((w5.alloc (.cells #[.string s1, .int .u32 s2, .int .u32 s3, .int .u64 s4] 41 (0, 0))).alloc (.cells #[.int .u8 t0, .int .u8 t1, .int .u32 t2, .slice As tb.length cs, .string tt] 35 (0, 0))).cell? ⟨w.heap.size + 1 + 1, 1, none⟩ = some (.int .u8 y1) := blk_cell S6.out.b5 1
  have cy2s : ((w5.alloc (.cells #[.string s1, .int .u32 s2, .int .u32 s3, .int .u64 s4] 41 (0, 0))).alloc (.cells #[.int .u8 t0, .int .u8 t1, .int .u32 t2, .slice As tb.length cs, .string tt] 35 (0, 0))).cell? ⟨w.heap.size + 1 + 1, 2, none⟩ = some (.int .u32 y2) := blk_cell S6.out.b5 2
  have cy3s : ((w5.alloc (.cells #[.string s1, .int .u32 s2, .int .u32 s3, .int .u64 s4] 41 (0, 0))).alloc (.cells #[.int .u8 t0, .int .u8 t1, .int .u32 t2, .slice As tb.length cs, .string tt] 35 (0, 0))).cell? ⟨w.heap.size + 1 + 1, 3, none⟩ = some (.slice B3 m3.length d3) := blk_cell S6.out.b5 3
  have cy4s : ((w5.alloc (.cells #[.string s1, .int .u32 s2, .int .u32 s3, .int .u64 s4] 41 (0, 0))).alloc (.cells #[.int .u8 t0, .int .u8 t1, .int .u32 t2, .slice As tb.length cs, .string tt] 35 (0, 0))).cell? ⟨w.heap.size + 1 + 1, 4, none⟩ = some (.string y4) := blk_cell S6.out.b5 4
  have ck1s : (((w5.alloc (.cells #[.string s1, .int .u32 s2, .int .u32 s3, .int .u64 s4] 41 (0, 0))).alloc (.cells #[.int .u8 t0, .int .u8 t1, .int .u32 t2, .slice As tb.length cs, .string tt] 35 (0, 0))).alloc (.cells #[.int .u8 y0, .int .u8 y1, .int .u32 y2, .slice B3 m3.length d3, .string tt] 35 (0, 0))).cell? ⟨w.heap.size, 1, none⟩ = some (.string k1) := blk_cell S7.out.b3 1
  have cz0s : (((w5.alloc (.cells #[.string s1, .int .u32 s2, .int .u32 s3, .int .u64 s4] 41 (0, 0))).alloc (.cells #[.int .u8 t0, .int .u8 t1, .int .u32 t2, .slice As tb.length cs, .string tt] 35 (0, 0))).alloc (.cells #[.int .u8 y0, .int .u8 y1, .int .u32 y2, .slice B3 m3.length d3, .string tt] 35 (0, 0))).cell? ⟨w5.heap.size + 1 + 1, 0, none⟩ = some (.int .u8 y0) := blk_cell HB11.out 0
  have cz1s : (((w5.alloc (.cells #[.string s1, .int .u32 s2, .int .u32 s3, .int .u64 s4] 41 (0, 0))).alloc (.cells #[.int .u8 t0, .int .u8 t1, .int .u32 t2, .slice As tb.length cs, .string tt] 35 (0, 0))).alloc (.cells #[.int .u8 y0, .int .u8 y1, .int .u32 y2, .slice B3 m3.length d3, .string tt] 35 (0, 0))).cell? ⟨w5.heap.size + 1 + 1, 1, none⟩ = some (.int .u8 y1) := blk_cell HB11.out 1
  have cz2s : (((w5.alloc (.cells #[.string s1, .int .u32 s2, .int .u32 s3, .int .u64 s4] 41 (0, 0))).alloc (.cells #[.int .u8 t0, .int .u8 t1, .int .u32 t2, .slice As tb.length cs, .string tt] 35 (0, 0))).alloc (.cells #[.int .u8 y0, .int .u8 y1, .int .u32 y2, .slice B3 m3.length d3, .string tt] 35 (0, 0))).cell? ⟨w5.heap.size + 1 + 1, 2, none⟩ = some (.int .u32 y2) := blk_cell HB11.out 2
  have cz3s : (((w5.alloc (.cells #[.string s1, .int .u32 s2, .int .u32 s3, .int .u64 s4] 41 (0, 0))).alloc (.cells #[.int .u8 t0, .int .u8 t1, .int .u32 t2, .slice As tb.length cs, .string tt] 35 (0, 0))).alloc (.cells #[.int .u8 y0, .int .u8 y1, .int .u32 y2, .slice B3 m3.length d3, .string tt] 35 (0, 0))).cell? ⟨w5.heap.size + 1 + 1, 3, none⟩ = some (.slice B3 m3.length d3) := blk_cell HB11.out 3
  have cz4s : (((w5.alloc (.cells #[.string s1, .int .u32 s2, .int .u32 s3, .int .u64 s4] 41 (0, 0))).alloc (.cells #[.int .u8 t0, .int .u8 t1, .int .u32 t2, .slice As tb.length cs, .string tt] 35 (0, 0))).alloc (.cells #[.int .u8 y0, .int .u8 y1, .int .u32 y2, .slice B3 m3.length d3, .string tt] 35 (0, 0))).cell? ⟨w5.heap.size + 1 + 1, 4, none⟩ = some (.string tt) := blk_cell HB11.out 4
  by_cases f0 : f = 0
  rotate_left
  · have f1 : (f != 0) = true := by simpa using f0
    go_wp2_with fail
    go_ret
    exact ⟨rfl, S6.out.hB⟩
  subst f0
  go_wp2_with fail
  refine (link_Accept.calls 6000 k1 0 0 0 y1 y0 y1 y2 B3 d3 m3 tt a1 a2 a3 a4 g _ S7.out.cy HLY.out HA.out).mono ?_
  rintro er w8 ⟨rfl, hb⟩
  clear cy0s cy1s cy2s cy3s cy4s ck1s cz0s cz1s cz2s cz3s cz4s ct4
  have hb9 := below_alloc hb (.cells #[.string a1, .int .u32 a2, .int .u32 a3, .int .u64 a4] 41 (0, 0))
  have S8 := Lib.hid (S7.out.step hb9)
  have CS8 := Lib.hid (Kd.C_below CS7.out hb9)
  replace HB9 := Lib.hid (HB9.out.step hb9)
  replace HB11 := Lib.hid (HB11.out.step hb9)
  have hcz := Kd.C_string (P := Try.prog) (A := B3) (c := d3) Try.underlying24 Try.underlying5 Try.underlying9 S8.out.cy
  have hct := Kd.C_string (P := Try.prog) (A := As) (c := cs) Try.underlying24 Try.underlying5 Try.underlying9 CS8.out
  clear hb hb9 ST S6 S7 CS CS7
  have ck0 : (w8.alloc (.cells #[.string a1, .int .u32 a2, .int .u32 a3, .int .u64 a4] 41 (0, 0))).cell? ⟨w.heap.size, 0, none⟩ = some (.string k0) := blk_cell S8.out.b3 0
  have ck1 : (w8.alloc (.cells #[.string a1, .int .u32 a2, .int .u32 a3, .int .u64 a4] 41 (0, 0))).cell? ⟨w.heap.size, 1, none⟩ = some (.string k1) := blk_cell S8.out.b3 1
  have cz0 : (w8.alloc (.cells #[.string a1, .int .u32 a2, .int .u32 a3, .int .u64 a4] 41 (0, 0))).cell? ⟨w5.heap.size + 1 + 1, 0, none⟩ = some (.int .u8 y0) := blk_cell HB11.out 0
  have cz1 : (w8.alloc (.cells #[.string a1, .int .u32 a2, .int .u32 a3, .int .u64 a4] 41 (0, 0))).cell? ⟨w5.heap.size + 1 + 1, 1, none⟩ = some (.int .u8 y1) := blk_cell HB11.out 1
  have cz2 : (w8.alloc (.cells #[.string a1, .int .u32 a2, .int .u32 a3, .int .u64 a4] 41 (0, 0))).cell? ⟨w5.heap.size + 1 + 1, 2, none⟩ = some (.int .u32 y2) := blk_cell HB11.out 2
  have cz3 : (w8.alloc (.cells #[.string a1, .int .u32 a2, .int .u32 a3, .int .u64 a4] 41 (0, 0))).cell? ⟨w5.heap.size + 1 + 1, 3, none⟩ = some (.slice B3 m3.length d3) := blk_cell HB11.out 3
  have cz4 : (w8.alloc (.cells #[.string a1, .int .u32 a2, .int .u32 a3, .int .u64 a4] 41 (0, 0))).cell? ⟨w5.heap.size + 1 + 1, 4, none⟩ = some (.string tt) := blk_cell HB11.out 4
  have ct0 : (w8.alloc (.cells #[.string a1, .int .u32 a2, .int .u32 a3, .int .u64 a4] 41 (0, 0))).cell? ⟨w5.heap.size + 1, 0, none⟩ = some (.int .u8 t0) := blk_cell HB9.out 0
  have ct1 : (w8.alloc (.cells #[.string a1, .int .u32 a2, .int .u32 a3, .int .u64 a4] 41 (0, 0))).cell? ⟨w5.heap.size + 1, 1, none⟩ = some (.int .u8 t1) := blk_cell HB9.out 1
  have ct2 : (w8.alloc (.cells #[.string a1, .int .u32 a2, .int .u32 a3, .int .u64 a4] 41 (0, 0))).cell? ⟨w5.heap.size + 1, 2, none⟩ = some (.int .u32 t2) := blk_cell HB9.out 2
  have ct3 : (w8.alloc (.cells #[.string a1, .int .u32 a2, .int .u32 a3, .int .u64 a4] 41 (0, 0))).cell? ⟨w5.heap.size + 1, 3, none⟩ = some (.slice As tb.length cs) := blk_cell HB9.out 3
  have ct4 : (w8.alloc (.cells #[.string a1, .int .u32 a2, .int .u32 a3, .int .u64 a4] 41 (0, 0))).cell? ⟨w5.heap.size + 1, 4, none⟩ = some (.string tt) := blk_cell HB9.out 4
  obtain ⟨rfl, hfin⟩ := HF.out rfl
  clear HF HS HA
  generalize hP : (strOfNums m3) = P1 at hcz hfin
  generalize hQ : (strOfNums tb) = Q1 at hct hfin
  have LAST : ∀ own : Bool, (g == 0) = own → True := fun _ _ => trivial
  cases e0 : (y0 == t0) with
  | false =>
    have hg : (g == 0) = false := by rw [hfin]; simp [e0]
    go_wp2_with fail
    refine (link_Accept.calls 6000 k0 0 0 0 t1 t0 t1 t2 As cs tb tt b1 b2 b3 b4 0 _ CS8.out LS.out HH.out).mono ?_
    rintro er w10 ⟨rfl, hb⟩
    have hB10 := Lib.hid (S8.out.hB.trans (hb.mono S8.out.hB.size))
    go_wp2_with fail
    go_ret
    exact ⟨rfl, below_alloc hB10.out _⟩
  | true =>
  cases e1 : (y1 == t1) with
  | false =>
    have hg : (g == 0) = false := by rw [hfin]; simp [e0, e1]
    go_wp2_with fail
    refine (link_Accept.calls 6000 k0 0 0 0 t1 t0 t1 t2 As cs tb tt b1 b2 b3 b4 0 _ CS8.out LS.out HH.out).mono ?_
    rintro er w10 ⟨rfl, hb⟩
    have hB10 := Lib.hid (S8.out.hB.trans (hb.mono S8.out.hB.size))
    go_wp2_with fail
    go_ret
    exact ⟨rfl, below_alloc hB10.out _⟩
  | true =>
  cases e2 : (y2 == t2) with
  | false =>
    have hg : (g == 0) = false := by rw [hfin]; simp [e0, e1, e2]
    go_wp2_with fail
    refine (link_Accept.calls 6000 k0 0 0 0 t1 t0 t1 t2 As cs tb tt b1 b2 b3 b4 0 _ CS8.out LS.out HH.out).mono ?_
    rintro er w10 ⟨rfl, hb⟩
    have hB10 := Lib.hid (S8.out.hB.trans (hb.mono S8.out.hB.size))
    go_wp2_with fail
    go_ret
    exact ⟨rfl, below_alloc hB10.out _⟩
  | true =>
  cases e3 : (P1.toList == Q1.toList) with
  | false =>
    have hg : (g == 0) = false := by rw [hfin]; simp [e0, e1, e2, e3]
    go_wp2_with fail
    refine (link_Accept.calls 6000 k0 0 0 0 t1 t0 t1 t2 As cs tb tt b1 b2 b3 b4 0 _ CS8.out LS.out HH.out).mono ?_
    rintro er w10 ⟨rfl, hb⟩
    have hB10 := Lib.hid (S8.out.hB.trans (hb.mono S8.out.hB.size))
    go_wp2_with fail
    go_ret
    exact ⟨rfl, below_alloc hB10.out _⟩
  | true =>
  cases e4 : (k0.toList == k1.toList) with
  | false =>
    have hg : (g == 0) = false := by rw [hfin]; simp [e0, e1, e2, e3, e4]
    go_wp2_with fail
    refine (link_Accept.calls 6000 k0 0 0 0 t1 t0 t1 t2 As cs tb tt b1 b2 b3 b4 0 _ CS8.out LS.out HH.out).mono ?_
    rintro er w10 ⟨rfl, hb⟩
    have hB10 := Lib.hid (S8.out.hB.trans (hb.mono S8.out.hB.size))
    go_wp2_with fail
    go_ret
    exact ⟨rfl, below_alloc hB10.out _⟩
  | true =>
  have hg : (g == 0) = true := by rw [hfin]; simp [e0, e1, e2, e3, e4]
  go_wp2_with fail
  refine (link_Accept.calls 6000 k0 0 0 0 t1 t0 t1 t2 As cs tb tt b1 b2 b3 b4 0 _ CS8.out LS.out HH.out).mono ?_
  rintro er w10 ⟨rfl, hb⟩
  have hB10 := Lib.hid (S8.out.hB.trans (hb.mono S8.out.hB.size))
  go_wp2_with fail
  go_ret
  exact ⟨rfl, below_alloc hB10.out _⟩
end Go.Proofs.Ytimfhdpgkoonaaa.L06
