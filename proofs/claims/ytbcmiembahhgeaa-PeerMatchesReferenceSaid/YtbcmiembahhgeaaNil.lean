import Derived.Test.YtbcmiembahhgeaaLess
namespace Go.Proofs.Ytbcmiembahhgeaa
open Go.ChangeShapes Go.WideShapes Go.ChangeAt Go.RowKit
set_option linter.unusedVariables false
set_option linter.unusedSimpArgs false
theorem address_nil (w : World) : Calls Try.prog 14 #[.pointer none] w fun e w' => e = .returned (.tuple #[.string ⟨#[]⟩, .bool false]) ∧ w = w' := by
  go_enter Try.func14, Try.ntmps14
  go_wp2_with fail
  refine bodyPost_ret (results_tmp2 rfl _ _ _) rfl ?_
  exact ⟨rfl, rfl⟩
theorem moves_nil (w : World) : Calls Try.prog 15 #[.pointer none] w fun e w' => e = .returned (.int .i64 0) ∧ w = w' := by
  go_enter Try.func15, Try.ntmps15
  go_wp2_with fail
  go_ret
  exact ⟨rfl, by simp⟩
theorem met_nil (s : ByteArray) (w : World) : Calls Try.prog 16 #[.pointer none, .string s] w fun e w' => e = .returned (.int .i64 0) ∧ w = w' := by
  go_enter Try.func16, Try.ntmps16
  go_wp2_with fail
  go_ret
  exact ⟨rfl, by simp⟩
theorem move_nil (s : ByteArray) (w : World) : Calls Try.prog 13 #[.pointer none, .string s] w fun e w' => e = .returned (.bool false) ∧ w = w' := by
  go_enter Try.func13, Try.ntmps13
  go_wp2_with fail
  go_ret
  exact ⟨rfl, by simp⟩
/-- A peer in its block. -/
def PeerAt (w : World) (g : Nat) (a : ByteArray) (f : Bool) (m : Int) (mp : Value) : Prop := Blk w g 39 #[.string a, .bool f, .int .i64 m, mp]
theorem moves_at (g : Nat) (a : ByteArray) (f : Bool) (m : Int) (mp : Value) (w : World) (h : PeerAt w g a f m mp) : Calls Try.prog 15 #[.pointer (some ⟨g, 0, none⟩)] w fun e w' => e = .returned (.int .i64 m) ∧ w = w' := by
  have c2 := Blk.cell h 2
  simp at c2
  clear h
  go_enter Try.func15, Try.ntmps15
  go_wp2_with fail
  go_ret
  exact ⟨rfl, by simp⟩
theorem address_at (g : Nat) (a : ByteArray) (f : Bool) (m : Int) (mp : Value) (w : World) (h : PeerAt w g a f m mp) : Calls Try.prog 14 #[.pointer (some ⟨g, 0, none⟩)] w fun e w' => e = .returned (.tuple #[.string a, .bool (!a.toList.isEmpty)]) ∧ ∃ k, w' = w.drewN k := by
  have c0 := Blk.cell h 0
  simp at c0
  have HH := Lib.hid h
  clear h
  go_enter Try.func14, Try.ntmps14
  go_wp2_with fail
  go_quiet (fail)
  go_wp2_with fail
  refine bodyPost_ret (results_tmp2 rfl _ _ _) rfl ?_
  exact ⟨rfl, _, rfl⟩
end Go.Proofs.Ytbcmiembahhgeaa
