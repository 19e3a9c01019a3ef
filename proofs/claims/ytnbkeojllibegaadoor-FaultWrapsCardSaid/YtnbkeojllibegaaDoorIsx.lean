import Derived.Test.YtnbkeojllibegaaDoorIsw
namespace Go.Proofs.YtnbkeojllibegaaDoor
open Go.ChangeShapes Go.WideShapes Go.ChangeAt Go.RowKit Go.Extern.Stop Go.Stop Go.Extern
set_option linter.unusedVariables false
set_option linter.unusedSimpArgs false
def cmpX := ReflectliteType.method fun t => do Go.Extern.Rtype.noPackHeld "Comparable" t; pure (.bool (← typeInfo t).comparable)
theorem comparable30 (w : World) : (cmpX #[.agg #[.pointer (some ⟨5, 30, none⟩)]]).run Tryd.prog w = .ok (.bool true) w := by kernel_rfl
set_option maxRecDepth 100000 in
set_option maxHeartbeats 4000000 in
theorem is_any (ps : List ByteArray) (core : Value) (c a t : Int) (hcore : core = codeV c ∨ core = faultV c a) (w : World) :
    Calls Tryd.prog 21 #[wrapV ps core, codeV t] w fun e w' => e = .returned (.bool (c == t)) ∧ Below w.heap.size w w' := by
  have h26 := @run_callFunc_extern Tryd.prog 26 _ ReflectliteType.typeOf Tryd.func26 (by kernel_rfl) (by kernel_rfl) (by kernel_rfl) (by kernel_rfl)
  have h75 := @run_callFunc_extern Tryd.prog 75 _ cmpX Tryd.func75 (by kernel_rfl) (by kernel_rfl) (by kernel_rfl) (by kernel_rfl)
  have tC := typeOf30
  have mC := methodComparable
  have cC := comparable30
  have h27 := fun W => is27_any ps core c a t hcore W
  obtain ⟨ty, x, hv⟩ := wrapV_form ps core (by rcases hcore with rfl | rfl <;> exact ⟨_, _, rfl⟩)
  rw [hv] at h27 ⊢
  unfold codeV
  clear hv hcore
  go_enter Tryd.func21, Tryd.ntmps21
  go_wp2_with (go_at_call 27; refine (h27 _).mono ?_; rintro _ w1 ⟨rfl, hb⟩; refine Hid.out ?_)
  refine Lib.hid ?_
  go_wp2_with fail
  go_ret
  exact ⟨rfl, hb⟩
end Go.Proofs.YtnbkeojllibegaaDoor
