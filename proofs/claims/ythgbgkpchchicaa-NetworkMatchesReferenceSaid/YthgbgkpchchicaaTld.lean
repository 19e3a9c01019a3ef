import Derived.Test.YthgbgkpchchicaaDgs
namespace Go.Proofs.Ythgbgkpchchicaa
open Go.ChangeShapes Go.WideShapes Go.ChangeAt Go.RowKit
set_option linter.unusedVariables false
set_option linter.unusedSimpArgs false
/-- The error of a code; 0: none. -/
def errV (x : Int) : Value := if x = 0 then .nilIface else .iface 62 (.int .i64 x)
theorem nil62 (y : Value) (w : World) : (binOp .eql 28 .nilIface (.iface 62 y)).run Try.prog w = .ok (.bool false) w := by kernel_rfl
theorem info62c : (Try.prog.info? 62).map (·.comparable) = some true := by kernel_rfl
theorem eq62 (x y : Int) (w : World) : (binOp .eql 28 (.iface 62 (.int .i64 x)) (.iface 62 (.int .i64 y))).run Try.prog w = .ok (.bool (x == y)) w := by
  obtain ⟨i, hi, hc⟩ := Option.map_eq_some_iff.1 info62c
  exact run_eql_iface_int (w := w) (a := x) (b := y) (hi := Try.underlying28) (hn := Try.underlying62) (hinfo := hi) (hcomp := hc)
set_option maxRecDepth 100000 in
theorem told_any (x code : Int) (w : World) : Calls Try.prog 14 #[errV x, .int .i64 code] w fun e w' => e = .returned (.bool (decide (x = code))) ∧ Below w.heap.size w w' := by
  by_cases hx : x = 0
  · subst hx
    rw [show errV 0 = .nilIface from rfl]
    by_cases hc : code = 0
    · subst hc
      go_enter Try.func14, Try.ntmps14
      go_wp2_with fail
      go_ret
      exact ⟨ret_bool (by simp), Below.refl _ _⟩
    · have g1 : (code == 0) = false := by simp; exact hc
      have e1 := nil62
      have e2 := eq62
      have HN := Lib.hid hc
      clear hc
      go_enter Try.func14, Try.ntmps14
      go_wp2_with fail
      go_ret
      exact ⟨ret_bool (by have := HN.out; simp; omega), Below.refl _ _⟩
  · rw [show errV x = .iface 62 (.int .i64 x) by unfold errV; rw [if_neg hx]]
    by_cases hc : code = 0
    · subst hc
      have HN := Lib.hid hx
      clear hx
      go_enter Try.func14, Try.ntmps14
      go_wp2_with fail
      go_ret
      exact ⟨ret_bool (by have := HN.out; simp; omega), Below.refl _ _⟩
    · have g1 : (code == 0) = false := by simp; exact hc
      have e1 := nil62
      have e2 := eq62
      have HN := Lib.hid hc
      clear hc
      go_enter Try.func14, Try.ntmps14
      go_wp2_with fail
      go_ret
      exact ⟨ret_bool (by first | rfl | (have hn := HN.out; by_cases h : x = code <;> simp [h, hn])), Below.refl _ _⟩
end Go.Proofs.Ythgbgkpchchicaa
