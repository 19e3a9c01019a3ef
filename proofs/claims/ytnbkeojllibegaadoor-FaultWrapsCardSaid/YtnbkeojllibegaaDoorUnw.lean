import Derived.Test.YtnbkeojllibegaaDoorTld
namespace Go.Proofs.YtnbkeojllibegaaDoor
open Go.ChangeShapes Go.WideShapes Go.ChangeAt Go.RowKit
set_option linter.unusedVariables false
set_option linter.unusedSimpArgs false
theorem newstr_any (s : ByteArray) (w : World) : Calls Tryd.prog 18 #[.string s] w fun e w' => (∃ y, e = .returned (.iface 55 y)) ∧ Below w.heap.size w w' := by
  go_enter Tryd.func18, Tryd.ntmps18
  go_wp2_with fail
  go_ret
  exact ⟨⟨_, rfl⟩, (Below.refl _ w).alloc (Nat.le_refl _) _⟩
theorem unwrap_any (p : ByteArray) (ty : TypeId) (x : Value) (w : World) : Calls Tryd.prog 20 #[.iface 59 (.agg #[.string p, .iface ty x])] w fun e w' => e = .returned (.iface ty x) ∧ Below w.heap.size w w' := by
  have uI := hasUnwrap59
  have mI := methodUnwrap59
  have hun := fun W => unwrap_inner p ty x W
  go_enter Tryd.func20, Tryd.ntmps20
  go_wp2_with (first | (go_at_call 69; refine (hun _).mono ?_; rintro _ _ ⟨rfl, rfl⟩))
  go_ret
  exact ⟨rfl, (Below.refl _ w).alloc (Nat.le_refl _) _⟩
end Go.Proofs.YtnbkeojllibegaaDoor
