import Derived.Test.YtbifakhalnkfbaaDoorJn
import Derived.Test.YtbifakhalnkfbaaDoorKri
import Derived.Test.YtbifakhalnkfbaaDoorPrt
namespace Go.Proofs.YtbifakhalnkfbaaDoor
open Go.ChangeShapes Go.WideShapes Go.ChangeAt Go.RowKit Go.Sort
set_option linter.unusedVariables false
set_option linter.unusedSimpArgs false
/-- A status. -/
structure St where
  nx : Nat
  ls : Nat
  an : Bool
  ac : Int
  rf : Int
  ad : ByteArray
  mv : Int
  sm : Int
  sp : Nat
  cl : Bool
def St.arr (s : St) : Array Value := #[.int .u64 s.nx, .int .u64 s.ls, .bool s.an, .int .i64 s.ac, .int .i64 s.rf, .string s.ad, .int .i64 s.mv, .int .i64 s.sm, .int .u16 s.sp, .bool s.cl]
def St.v (s : St) : Value := .agg #[.int .u64 s.nx, .int .u64 s.ls, .bool s.an, .int .i64 s.ac, .int .i64 s.rf, .string s.ad, .int .i64 s.mv, .int .i64 s.sm, .int .u16 s.sp, .bool s.cl]
structure StOk (s : St) : Prop where
  n1 : s.nx < 18446744073709551616
  l1 : s.ls < 18446744073709551616
  p1 : s.sp < 65536
  a0 : -9223372036854775808 ≤ s.ac
  a1 : s.ac ≤ 9223372036854775807
  r0 : -9223372036854775808 ≤ s.rf
  r1 : s.rf ≤ 9223372036854775807
  m0 : -9223372036854775808 ≤ s.mv
  m1 : s.mv ≤ 9223372036854775807
  s0 : -9223372036854775808 ≤ s.sm
  s1 : s.sm ≤ 9223372036854775807
  d1 : s.ad.size ≤ maxLen
def sm31 (x : Int) : Bool := decide (0 ≤ x) && decide (x ≤ 2147483647)
def rgtS (s : St) : Bool := sm31 s.ac && sm31 s.rf && sm31 s.mv && sm31 s.sm && decide (s.nx ≤ 9223372036854775807) && decide (s.ls ≤ 9223372036854775807) && (s.an || decide (s.ls = 0)) && (!decide (s.sm = 0) || decide (s.sp = 0)) && (decide (s.ad = ByteArray.empty) || rightS s.ad)
theorem through {w W w1 : World} (h : Below w.heap.size w W) (hb : Below W.heap.size W w1) : Below w.heap.size w w1 := h.trans (hb.mono h.size)
theorem below_none {w w' : World} (hg : w.grownBy w' none) : Below w.heap.size w w' := ⟨hg.os, hg.tape, hg.output, hg.size, fun i hi => hg.block i hi (by simp)⟩
theorem sm31_t {x : Int} (h0 : 0 ≤ x) (h1 : x ≤ 2147483647) : sm31 x = true := by unfold sm31; simp [h0, h1]
theorem sm31_f {x : Int} (h : x < 0 ∨ 2147483647 < x) : sm31 x = false := by unfold sm31; simp; omega
end Go.Proofs.YtbifakhalnkfbaaDoor
