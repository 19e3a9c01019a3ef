import Derived.Test.YtbkgmeopdcealaaDoorWrg
namespace Go.Proofs.YtbkgmeopdcealaaDoor
open Go.ChangeShapes Go.WideShapes Go.ChangeAt Go.RowKit
set_option linter.unusedVariables false
set_option linter.unusedSimpArgs false
def sign (r : Nat) : Bool := decide (r = 46) || decide (r = 58) || decide (r = 45)
theorem sign_ascii : ∀ r : Fin 128, decide (0 ≤ Lib.indexByte [46, 58, 45] ((r.1 : Int).toNat.toUInt8)) = sign r.1 := by decide +kernel
theorem crune_any (r : Nat) (w : World) (hr : r ≤ 1114111) :
    Calls Tryd.prog 70 #[.string ⟨#[46, 58, 45]⟩, .int .i32 (r : Int)] w fun e w' => e = .returned (.bool (sign r)) ∧ Below w.heap.size w w' := by
  by_cases h : r < 128
  · refine (Tryd.strings_ContainsRune_ascii ⟨#[46, 58, 45]⟩ (r : Int) w (by omega) (by omega)).mono ?_
    rintro _ _ ⟨rfl, rfl⟩
    exact ⟨by rw [show (⟨#[46, 58, 45]⟩ : ByteArray).data.toList = [46, 58, 45] from rfl, sign_ascii ⟨r, h⟩], Below.refl _ _⟩
  · have hs : sign r = false := by unfold sign; simp; omega
    rw [hs]
    have hi := irune_big r w (by omega) hr
    clear hs
    go_enter Tryd.func70, Tryd.ntmps70
    go_wp2_with (go_at_call 84; refine hi.mono ?_; rintro _ w1 ⟨rfl, hb⟩; refine Hid.out ?_)
    refine Lib.hid ?_
    have HB := Lib.hid hb
    clear hb
    go_wp2_with fail
    go_ret
    exact ⟨rfl, HB.out⟩
set_option maxRecDepth 100000 in
set_option maxHeartbeats 2000000 in
theorem right_any (x : Nat) (w : World) (hr : x ≤ 1114111) :
    Calls Tryd.prog 58 #[.int .i32 (x : Int)] w fun e w' => e = .returned (.bool (rightB x)) ∧ Below w.heap.size w w' := by
  have hc := crune_any x w hr
  by_cases hp : (97 ≤ x ∧ x ≤ 122) ∨ (65 ≤ x ∧ x ≤ 90) ∨ (48 ≤ x ∧ x ≤ 57)
  · have hv : rightB x = true := by unfold rightB; simp only [Bool.or_eq_true, Bool.and_eq_true, decide_eq_true_eq]; omega
    rw [hv]
    clear hv hc
    rcases hp with ⟨h1, h2⟩ | ⟨h1, h2⟩ | ⟨h1, h2⟩
    all_goals
      go_enter Tryd.func58, Tryd.ntmps58
      go_wp2_with fail
      go_ret
      exact ⟨rfl, Below.refl _ _⟩
  · have hv : rightB x = sign x := by
      unfold rightB sign
      have e1 : (decide (97 ≤ x) && decide (x ≤ 122)) = false := by simp; omega
      have e2 : (decide (65 ≤ x) && decide (x ≤ 90)) = false := by simp; omega
      have e3 : (decide (48 ≤ x) && decide (x ≤ 57)) = false := by simp; omega
      rw [e1, e2, e3]; rfl
    rw [hv]
    clear hv
    rcases (show (x < 48) ∨ (58 ≤ x ∧ x ≤ 64) ∨ (91 ≤ x ∧ x ≤ 96) ∨ (123 ≤ x) by omega) with h1 | ⟨h1, h2⟩ | ⟨h1, h2⟩ | h1
    all_goals
      clear hp
      go_enter Tryd.func58, Tryd.ntmps58
      go_wp2_with (go_at_call 70; refine hc.mono ?_; rintro _ w1 ⟨rfl, hb⟩; refine Hid.out ?_)
      refine Lib.hid ?_
      have HB := Lib.hid hb
      clear hb hc
      go_wp2_with fail
      go_ret
      exact ⟨by first | rfl | exact ret_bool (by have e : ¬ (x : Int) ≤ 57 := by omega
                                                 simp [e] <;> (intros; exfalso; omega)), HB.out⟩
theorem wrong_any (x : Nat) (w : World) (hr : x ≤ 1114111) :
    Calls Tryd.prog 57 #[.int .i32 (x : Int)] w fun e w' => e = .returned (.bool (!rightB x)) ∧ Below w.heap.size w w' := by
  have hc := right_any x w hr
  obtain ⟨b, hb⟩ : ∃ b, rightB x = b := ⟨_, rfl⟩
  rw [hb] at hc ⊢
  clear hb
  go_enter Tryd.func57, Tryd.ntmps57
  go_wp2_with (go_at_call 58; refine hc.mono ?_; rintro _ w1 ⟨rfl, hb⟩; refine Hid.out ?_)
  refine Lib.hid ?_
  have HB := Lib.hid hb
  clear hb hc
  go_wp2_with fail
  go_ret
  exact ⟨rfl, HB.out⟩
theorem cfunc_any (s : ByteArray) (w : World) :
    Calls Tryd.prog 59 #[.string s, .func (.func 57) #[] #[]] w fun e w' => e = .returned (.bool (!(bys s).all rightB)) ∧ Below w.heap.size w w' := by
  rw [← idxFunc_wrong]
  exact Tryd.strings_ContainsFunc_grows 57 #[] (enters_of Tryd.func57 (by kernel_rfl) rfl) _ s w (fun W x hx _ => wrong_any x W hx)
theorem Right_any (s : ByteArray) (w : World) (hs : s.size ≤ maxLen) :
    Calls Tryd.prog 46 #[.string s] w fun e w' => e = .returned (.bool (rightS s)) ∧ Below w.heap.size w w' := by
  have hc := cfunc_any s w
  obtain ⟨b, hb⟩ : ∃ b, (bys s).all rightB = b := ⟨_, rfl⟩
  unfold maxLen at hs
  have hv : rightS s = (b && decide (1 ≤ s.size) && decide (s.size ≤ 100)) := by unfold rightS; rw [hb]
  rw [hb] at hc
  rw [hv]
  clear hv hb
  by_cases h0 : s.size = 0
  · have he : s = ⟨#[]⟩ := by
      obtain ⟨⟨l⟩⟩ := s
      have : l = [] := List.eq_nil_of_length_eq_zero h0
      subst this; rfl
    subst he
    rw [show (b && decide (1 ≤ (⟨#[]⟩ : ByteArray).size) && decide ((⟨#[]⟩ : ByteArray).size ≤ 100)) = false by cases b <;> rfl]
    go_enter Tryd.func46, Tryd.ntmps46
    go_wp2_with fail
    go_ret
    exact ⟨rfl, Below.refl _ _⟩
  · have hne : (s.toList == []) = false := by
      rw [ByteArray.toList_eq]
      have : s.data.toList.length = s.size := by simp
      cases hl : s.data.toList with
      | nil => rw [hl] at this; simp at this; omega
      | cons => rfl
    have hd : decide (1 ≤ s.size) = true := by simp; omega
    rw [hd]
    by_cases h1 : s.size ≤ 100
    · rw [show (b && true && decide (s.size ≤ 100)) = b by simp [h1]]
      go_enter Tryd.func46, Tryd.ntmps46
      go_wp2_with (go_at_call 59; refine hc.mono ?_; rintro _ w1 ⟨rfl, hb⟩; refine Hid.out ?_)
      refine Lib.hid ?_
      have HB := Lib.hid hb
      clear hb hc
      go_wp2_with fail
      go_ret
      exact ⟨ret_bool (by simp), HB.out⟩
    · rw [show (b && true && decide (s.size ≤ 100)) = false by simp [h1]]
      go_enter Tryd.func46, Tryd.ntmps46
      go_wp2_with fail
      go_ret
      exact ⟨rfl, Below.refl _ _⟩
end Go.Proofs.YtbkgmeopdcealaaDoor
