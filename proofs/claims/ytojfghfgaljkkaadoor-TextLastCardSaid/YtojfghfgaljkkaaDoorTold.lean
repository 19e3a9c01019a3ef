import Derived.Test.YtojfghfgaljkkaaDoorAsg
namespace Go.Proofs.YtojfghfgaljkkaaDoor
open Go.ChangeShapes Go.WideShapes Go.ChangeAt Go.RowKit
set_option linter.unusedVariables false
set_option linter.unusedSimpArgs false
/-- An error of this program: none, or a fault. -/
def errV : Option (Int × Int) → Value
  | none => .nilIface
  | some (c, a) => .iface 54 (.agg #[.int .i64 c, .int .i64 a])
theorem Err.below {w w' : World} (h : Err w) (hb : Below w.heap.size w w') : Err w' := (hb.cell (p := ⟨1, 0, none⟩) (lt_of_cell h)).trans h
theorem Err.drewN {w : World} (h : Err w) (k : Nat) : Err (w.drewN k) := h
theorem Err.alloc {w : World} (h : Err w) (o : Obj) : Err (w.alloc o) := h.below ((Below.refl _ w).alloc (Nat.le_refl _) o)
theorem new_any (c a : Int) (w : World) : Calls Tryd.prog 16 #[.int .i64 c, .int .i64 a] w fun e w' => e = .returned (errV (some (c, a))) ∧ w = w' := by
  go_enter Tryd.func16, Tryd.ntmps16
  go_wp2_with fail
  go_ret
  exact ⟨rfl, by simp⟩
theorem code_nil (w : World) : Calls Tryd.prog 19 #[.nilIface] w fun e w' => e = .returned (.tuple #[.int .i64 0, .bool false]) ∧ Below w.heap.size w w' := by
  go_enter Tryd.func19, Tryd.ntmps19
  go_wp2_with (go_at_call 21; refine (as_nil _ _).mono ?_; rintro _ _ ⟨rfl, rfl⟩)
  refine bodyPost_ret (results_tmp2 rfl _ _ _) rfl ?_
  exact ⟨rfl, (Below.refl _ w).alloc (Nat.le_refl _) _⟩
theorem at_nil (w : World) : Calls Tryd.prog 20 #[.nilIface] w fun e w' => e = .returned (.tuple #[.int .i64 0, .bool false]) ∧ Below w.heap.size w w' := by
  go_enter Tryd.func20, Tryd.ntmps20
  go_wp2_with (go_at_call 21; refine (as_nil _ _).mono ?_; rintro _ _ ⟨rfl, rfl⟩)
  refine bodyPost_ret (results_tmp2 rfl _ _ _) rfl ?_
  exact ⟨rfl, (Below.refl _ w).alloc (Nat.le_refl _) _⟩
theorem code_fault (c a : Int) (w : World) (hg : Err w) : Calls Tryd.prog 19 #[errV (some (c, a))] w fun e w' => e = .returned (.tuple #[.int .i64 c, .bool true]) ∧ Below w.heap.size w w' := by
  unfold errV
  have HG := Lib.hid (hg.alloc (.cells #[.int .i64 0] 43))
  clear hg
  go_enter Tryd.func19, Tryd.ntmps19
  go_wp2_with (go_at_call 21; refine (as_fault_code c a ⟨w.heap.size, 0, none⟩ (.int .i64 0) _ HG.out (by simp) (by simp)).mono ?_; rintro _ w1 ⟨rfl, hc, hb⟩; refine Hid.out ?_)
  refine Lib.hid ?_
  have HB := Lib.hid (below_only ((Below.refl _ w).alloc (Nat.le_refl _) _) hb (by simp) (Nat.le_refl _))
  clear hb
  go_wp2_with fail
  refine bodyPost_ret (results_tmp2 rfl _ _ _) rfl ?_
  exact ⟨rfl, HB.out⟩
theorem at_fault (c a : Int) (w : World) (hg : Err w) : Calls Tryd.prog 20 #[errV (some (c, a))] w fun e w' => e = .returned (.tuple #[.int .i64 a, .bool true]) ∧ Below w.heap.size w w' := by
  unfold errV
  have HG := Lib.hid (hg.alloc (.cells #[.int .i64 0, .int .i64 0] 54))
  clear hg
  go_enter Tryd.func20, Tryd.ntmps20
  go_wp2_with (go_at_call 21; refine (as_fault_fault c a w.heap.size (.int .i64 0) (.int .i64 0) _ HG.out (by simp) (by simp) (by simp) (by simp)).mono ?_; rintro _ w1 ⟨rfl, hc, ha, hb⟩; refine Hid.out ?_)
  refine Lib.hid ?_
  have HB := Lib.hid (below_only ((Below.refl _ w).alloc (Nat.le_refl _) _) hb (by simp) (Nat.le_refl _))
  clear hb
  go_wp2_with fail
  refine bodyPost_ret (results_tmp2 rfl _ _ _) rfl ?_
  exact ⟨rfl, HB.out⟩
def toldB : Option (Int × Int) → Int → Int → Bool
  | none, code, _ => decide (code = 0)
  | some (c, a), code, at_ => !decide (code = 0) && decide (c = code) && decide (a = at_)
theorem told_any (e : Option (Int × Int)) (code at_ : Int) (w : World) (hg : Err w) : Calls Tryd.prog 12 #[errV e, .int .i64 code, .int .i64 at_] w fun r w' => r = .returned (.bool (toldB e code at_)) ∧ Below w.heap.size w w' := by
  rcases e with _ | ⟨c, a⟩
  · by_cases h0 : code = 0
    · subst h0
      unfold errV toldB
      go_enter Tryd.func12, Tryd.ntmps12
      go_wp2_with fail
      go_ret
      exact ⟨rfl, Below.refl _ _⟩
    · have hn : (code == 0) = false := by simp [h0]
      rw [show toldB none code at_ = false by simp [toldB, h0]]
      unfold errV
      go_enter Tryd.func12, Tryd.ntmps12
      go_wp2_with (first
        | (go_at_call 19; refine (code_nil _).mono ?_; rintro _ w1 ⟨rfl, hb⟩; refine Hid.out ?_))
      refine Lib.hid ?_
      have H1 := Lib.hid hb
      clear hb
      go_wp2_with (first
        | (go_at_call 20; refine (at_nil _).mono ?_; rintro _ w2 ⟨rfl, hb⟩; refine Hid.out ?_))
      refine Lib.hid ?_
      have H2 := Lib.hid (H1.out.trans (hb.mono H1.out.size))
      clear hb
      go_wp2_with fail
      go_ret
      exact ⟨rfl, H2.out⟩
  · by_cases h0 : code = 0
    · subst h0
      unfold errV toldB
      go_enter Tryd.func12, Tryd.ntmps12
      go_wp2_with fail
      go_ret
      exact ⟨rfl, Below.refl _ _⟩
    · have hn : (code == 0) = false := by simp [h0]
      obtain ⟨v, hv⟩ : ∃ v, errV (some (c, a)) = v := ⟨_, rfl⟩
      have hc := fun W hW => code_fault c a W hW
      have ha := fun W hW => at_fault c a W hW
      rw [hv] at hc ha ⊢
      have HV := Lib.hid hv
      have HG := Lib.hid hg
      clear hv hg
      by_cases h1 : c = code
      · by_cases h2 : a = at_
        · rw [show toldB (some (c, a)) code at_ = true by simp [toldB, h0, h1, h2]]
          go_enter Tryd.func12, Tryd.ntmps12
          go_wp2_with (first
            | (go_at_call 19; refine (hc _ HG.out).mono ?_; rintro _ w1 ⟨rfl, hb⟩; refine Hid.out ?_))
          refine Lib.hid ?_
          have H1 := Lib.hid hb
          have HG1 := Lib.hid (HG.out.below hb)
          clear hb
          go_wp2_with (first
            | (go_at_call 20; refine (ha _ HG1.out).mono ?_; rintro _ w2 ⟨rfl, hb⟩; refine Hid.out ?_))
          refine Lib.hid ?_
          have H2 := Lib.hid (H1.out.trans (hb.mono H1.out.size))
          clear hb
          go_wp2_with fail
          go_ret
          exact ⟨ret_true (by simp [h1, h2]), H2.out⟩
        · rw [show toldB (some (c, a)) code at_ = false by simp [toldB, h0, h1, h2]]
          have h2' : (a == at_) = false := by simp [h2]
          go_enter Tryd.func12, Tryd.ntmps12
          go_wp2_with (first
            | (go_at_call 19; refine (hc _ HG.out).mono ?_; rintro _ w1 ⟨rfl, hb⟩; refine Hid.out ?_))
          refine Lib.hid ?_
          have H1 := Lib.hid hb
          have HG1 := Lib.hid (HG.out.below hb)
          clear hb
          go_wp2_with (first
            | (go_at_call 20; refine (ha _ HG1.out).mono ?_; rintro _ w2 ⟨rfl, hb⟩; refine Hid.out ?_))
          refine Lib.hid ?_
          have H2 := Lib.hid (H1.out.trans (hb.mono H1.out.size))
          clear hb
          go_wp2_with fail
          go_ret
          exact ⟨ret_bool (by simp [h1, h2]), H2.out⟩
      · rw [show toldB (some (c, a)) code at_ = false by simp [toldB, h0, h1]]
        have h1' : (c == code) = false := by simp [h1]
        go_enter Tryd.func12, Tryd.ntmps12
        go_wp2_with (first
          | (go_at_call 19; refine (hc _ HG.out).mono ?_; rintro _ w1 ⟨rfl, hb⟩; refine Hid.out ?_))
        refine Lib.hid ?_
        have H1 := Lib.hid hb
        have HG1 := Lib.hid (HG.out.below hb)
        clear hb
        go_wp2_with (first
          | (go_at_call 20; refine (ha _ HG1.out).mono ?_; rintro _ w2 ⟨rfl, hb⟩; refine Hid.out ?_))
        refine Lib.hid ?_
        have H2 := Lib.hid (H1.out.trans (hb.mono H1.out.size))
        clear hb
        go_wp2_with fail
        go_ret
        exact ⟨ret_bool (by simp [h1]), H2.out⟩
end Go.Proofs.YtojfghfgaljkkaaDoor
