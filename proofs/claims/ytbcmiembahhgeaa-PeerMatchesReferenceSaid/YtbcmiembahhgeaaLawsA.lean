import Derived.Test.YtbcmiembahhgeaaFew
namespace Go.Proofs.Ytbcmiembahhgeaa
open Go.ChangeShapes Go.WideShapes Go.ChangeAt Go.RowKit
set_option linter.unusedVariables false
set_option linter.unusedSimpArgs false
set_option maxRecDepth 100000 in
set_option maxHeartbeats 1000000 in
theorem nil_law (s : ByteArray) (w : World) (hs : s.size ≤ maxLen) : Calls Try.prog 6 #[.string s] w fun e w' => e = .returned (.bool true) ∧ Below w.heap.size w w' := by
  have hA := awake_any
  unfold maxLen at hs
  by_cases hl : s.size ≤ 1000
  · go_enter Try.func6, Try.ntmps6
    go_wp2_with (first
      | (go_at_call 7; refine (hA _).mono ?_; rintro _ w1 ⟨rfl, hb⟩; refine Hid.out ?_))
    refine Lib.hid ?_
    have HB := Lib.hid hb
    clear hb hA
    go_wp2_with (first
      | (go_at_call 14; refine (address_nil _).mono ?_; rintro _ _ ⟨rfl, rfl⟩)
      | (go_at_call 13; refine (move_nil _ _).mono ?_; rintro _ _ ⟨rfl, rfl⟩)
      | (go_at_call 15; refine (moves_nil _).mono ?_; rintro _ _ ⟨rfl, rfl⟩)
      | (go_at_call 16; refine (met_nil _ _).mono ?_; rintro _ _ ⟨rfl, rfl⟩))
    go_ret
    exact ⟨ret_true (by simp), HB.out⟩
  · go_enter Try.func6, Try.ntmps6
    go_wp2_with (first
      | (go_at_call 7; refine (hA _).mono ?_; rintro _ w1 ⟨rfl, hb⟩; refine Hid.out ?_))
    refine Lib.hid ?_
    have HB := Lib.hid hb
    clear hb
    go_wp2_with (first
      | (go_at_call 7; refine (hA _).mono ?_; rintro _ w2 ⟨rfl, hb⟩; refine Hid.out ?_))
    refine Lib.hid ?_
    have HC := Lib.hid hb
    clear hb hA
    go_wp2_with fail
    go_ret
    exact ⟨rfl, HB.out.trans (HC.out.mono HB.out.size)⟩
end Go.Proofs.Ytbcmiembahhgeaa
