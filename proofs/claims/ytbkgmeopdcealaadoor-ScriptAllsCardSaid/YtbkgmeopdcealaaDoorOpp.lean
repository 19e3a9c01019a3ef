import Derived.Test.YtbkgmeopdcealaaDoorBqe
import Derived.Test.YtbkgmeopdcealaaDoorUnh
namespace Go.Proofs.YtbkgmeopdcealaaDoor
open Go.ChangeShapes Go.WideShapes Go.ChangeAt Go.RowKit Go.Sort
set_option linter.unusedVariables false
set_option linter.unusedSimpArgs false
/-- An operation. -/
structure Op where
  kd : Int
  wh : Int
  nn : Int
  mm : Int
  A : Option Addr
  n : Nat
  c : Nat
  bs : List Nat
  ad : ByteArray
def Op.v (o : Op) : Value := .agg #[.int .i64 o.kd, .int .i64 o.wh, .int .i64 o.nn, .int .i64 o.mm, .slice o.A o.n o.c, .string o.ad]
def Op.arr (o : Op) : Array Value := #[.int .i64 o.kd, .int .i64 o.wh, .int .i64 o.nn, .int .i64 o.mm, .slice o.A o.n o.c, .string o.ad]
structure OpOk (w : World) (o : Op) : Prop where
  y : Bys w o.A o.n o.bs
  c0 : o.n ≤ o.c
  c1 : o.c ≤ maxLen
  k0 : -9223372036854775808 ≤ o.kd
  k1 : o.kd ≤ 9223372036854775807
  w0 : -9223372036854775808 ≤ o.wh
  w1 : o.wh ≤ 9223372036854775807
  n0 : -9223372036854775808 ≤ o.nn
  n1 : o.nn ≤ 9223372036854775807
  m0 : -9223372036854775808 ≤ o.mm
  m1 : o.mm ≤ 9223372036854775807
  a1 : o.ad.size ≤ maxLen
theorem OpOk.below {w w' : World} {o : Op} (h : OpOk w o) (hb : Below w.heap.size w w') : OpOk w' o := ⟨h.y.below hb, h.c0, h.c1, h.k0, h.k1, h.w0, h.w1, h.n0, h.n1, h.m0, h.m1, h.a1⟩
/-- The same fields, the body by its bytes. -/
def opEq (a b : Op) : Bool := decide (a.kd = b.kd) && decide (a.wh = b.wh) && decide (a.nn = b.nn) && decide (a.mm = b.mm) && decide (a.bs = b.bs) && decide (a.ad = b.ad)
end Go.Proofs.YtbkgmeopdcealaaDoor
