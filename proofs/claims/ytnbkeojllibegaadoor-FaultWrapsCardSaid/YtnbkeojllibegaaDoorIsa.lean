import Derived.Test.YtnbkeojllibegaaDoorUnw
namespace Go.Proofs.YtnbkeojllibegaaDoor
open Go.ChangeShapes Go.WideShapes Go.ChangeAt Go.RowKit Go.Extern.Stop Go.Stop Go.Extern
set_option linter.unusedVariables false
set_option linter.unusedSimpArgs false
theorem ne59_30 (x y : Value) (w : World) : (binOp .eql 28 (.iface 59 x) (.iface 30 y)).run Tryd.prog w = .ok (.bool false) w := by kernel_rfl
theorem ne50_30 (x y : Value) (w : World) : (binOp .eql 28 (.iface 50 x) (.iface 30 y)).run Tryd.prog w = .ok (.bool false) w := by kernel_rfl
theorem noIs59 (v : Value) (w : World) : (Instr.typeAssert (.iface 59 v) 28 80 true).run Tryd.prog w = .ok (.tuple #[.nilIface, .bool false]) w := run_typeAssert_lacksB Tryd.underlying80 (by kernel_rfl) (by kernel_rfl) v 28 w
theorem noIs50 (v : Value) (w : World) : (Instr.typeAssert (.iface 50 v) 28 80 true).run Tryd.prog w = .ok (.tuple #[.nilIface, .bool false]) w := run_typeAssert_lacksB Tryd.underlying80 (by kernel_rfl) (by kernel_rfl) v 28 w
theorem noIs30 (v : Value) (w : World) : (Instr.typeAssert (.iface 30 v) 28 80 true).run Tryd.prog w = .ok (.tuple #[.nilIface, .bool false]) w := run_typeAssert_lacksB Tryd.underlying80 (by kernel_rfl) (by kernel_rfl) v 28 w
theorem methodComparable (h : Value) (w : World) : (Go.method 238 78 (.agg #[h]) "Comparable").run Tryd.prog w = .ok (75, .agg #[h]) w := by kernel_rfl
end Go.Proofs.YtnbkeojllibegaaDoor
