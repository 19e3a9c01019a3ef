import Derived.Test.YtbkgmeopdcealaaDoorRows
import Derived.Test.YtbkgmeopdcealaaDoorBase
import Derived.Deep.Cut
namespace Go.Proofs.YtbkgmeopdcealaaDoor
open Go.ChangeShapes Go.WideShapes Go.ChangeAt Go.RowKit
set_option linter.unusedVariables false
set_option linter.unusedSimpArgs false
def rightB (x : Nat) : Bool := (decide (97 ≤ x) && decide (x ≤ 122)) || (decide (65 ≤ x) && decide (x ≤ 90)) || (decide (48 ≤ x) && decide (x ≤ 57)) || decide (x = 46) || decide (x = 58) || decide (x = 45)
def bys (s : ByteArray) : List Nat := s.data.toList.map UInt8.toNat
theorem bys_len (s : ByteArray) : (bys s).length = s.size := by simp [bys]
def rightS (s : ByteArray) : Bool := (bys s).all rightB && decide (1 ≤ s.size) && decide (s.size ≤ 100)
theorem all_next {l : List Nat} {j x : Nat} (hx : l[j]? = some x) (ht : (l.take j).all rightB = true) (hr : rightB x = true) : (l.take (j + 1)).all rightB = true := by
  rw [List.take_add_one, hx, List.all_append, ht]; simp [hr]
theorem rightS_bad {s : ByteArray} {j x : Nat} (hx : (bys s)[j]? = some x) (hr : rightB x = false) : rightS s = false := by
  have : (bys s).all rightB = false := by
    rw [List.all_eq_false]
    exact ⟨x, List.mem_of_getElem? hx, by simp [hr]⟩
  unfold rightS; rw [this]; rfl
set_option maxRecDepth 100000 in
set_option maxHeartbeats 1000000 in
theorem rright_any (s : ByteArray) (w : World) (hs : s.size ≤ maxLen) :
    Calls Tryd.prog 26 #[.string s] w fun e w' => e = .returned (.bool (rightS s)) ∧ w = w' := by
  unfold maxLen at hs
  go_enter Tryd.func26, Tryd.ntmps26
  go_wp2_with fail
  go_loopw [3] (fun i wr => ∃ (j : Nat), j ≤ s.size ∧ i = .int .i64 j ∧ ((bys s).take j).all rightB = true ∧ wr = w) (fun i _ => s.size - (intOf i).toNat)
  case atStart => exact ⟨0, by omega, rfl, rfl, rfl⟩
  case round =>
    obtain ⟨j, hj, rfl, ht, rfl⟩ := hrel
    have HT := Lib.hid ht
    clear ht
    by_cases hlt : j < s.size
    · have hx0 : (bys s)[j]? = some (s[j].toNat) := by simp [bys, hlt]; rfl
      have hx9 : s[j].toNat < 256 := s[j].toNat_lt
      go_upto_region 5 with (fail)
      obtain ⟨x, hx⟩ : ∃ x, s[j].toNat = x := ⟨_, rfl⟩
      rw [hx] at hx0 hx9
      simp only [hx]
      have HX := Lib.hid hx0
      clear hx0 hx
      rcases (show (x < 45) ∨ (x = 45) ∨ (x = 46) ∨ (x = 47) ∨ (48 ≤ x ∧ x ≤ 57) ∨ (x = 58) ∨ (59 ≤ x ∧ x ≤ 64) ∨ (65 ≤ x ∧ x ≤ 90) ∨ (91 ≤ x ∧ x ≤ 96) ∨ (97 ≤ x ∧ x ≤ 122) ∨ (123 ≤ x) by omega) with h1 | h1 | h1 | h1 | h1 | h1 | h1 | h1 | h1 | h1 | h1
      · have hr : rightB x = false := by unfold rightB; simp; omega
        have HN := Lib.hid (rightS_bad HX.out hr)
        clear hr HT HX
        first | (obtain ⟨h1, h2⟩ := h1) | subst h1 | skip
        go_wp2_with fail
        all_goals first
          | (go_ret; exact ⟨ret_bool (by rw [HN.out]), by simp⟩)
          | (exfalso; omega)
          | (exfalso; simp_all; omega)
      · have hr : rightB x = true := by unfold rightB; simp only [Bool.or_eq_true, Bool.and_eq_true, decide_eq_true_eq]; omega
        have HN := Lib.hid (all_next HX.out HT.out hr)
        clear hr HT HX
        first | (obtain ⟨h1, h2⟩ := h1) | subst h1 | skip
        go_wp2_with fail
        all_goals
          go_roundw
          case rel => exact ⟨j + 1, by omega, by go_num, HN.out, by simp⟩
          case measure => simp [intOf]; omega
      · have hr : rightB x = true := by unfold rightB; simp only [Bool.or_eq_true, Bool.and_eq_true, decide_eq_true_eq]; omega
        have HN := Lib.hid (all_next HX.out HT.out hr)
        clear hr HT HX
        first | (obtain ⟨h1, h2⟩ := h1) | subst h1 | skip
        go_wp2_with fail
        all_goals
          go_roundw
          case rel => exact ⟨j + 1, by omega, by go_num, HN.out, by simp⟩
          case measure => simp [intOf]; omega
      · have hr : rightB x = false := by unfold rightB; simp; omega
        have HN := Lib.hid (rightS_bad HX.out hr)
        clear hr HT HX
        first | (obtain ⟨h1, h2⟩ := h1) | subst h1 | skip
        go_wp2_with fail
        all_goals first
          | (go_ret; exact ⟨ret_bool (by rw [HN.out]), by simp⟩)
          | (exfalso; omega)
          | (exfalso; simp_all; omega)
      · have hr : rightB x = true := by unfold rightB; simp only [Bool.or_eq_true, Bool.and_eq_true, decide_eq_true_eq]; omega
        have HN := Lib.hid (all_next HX.out HT.out hr)
        clear hr HT HX
        first | (obtain ⟨h1, h2⟩ := h1) | subst h1 | skip
        go_wp2_with fail
        all_goals
          go_roundw
          case rel => exact ⟨j + 1, by omega, by go_num, HN.out, by simp⟩
          case measure => simp [intOf]; omega
      · have hr : rightB x = true := by unfold rightB; simp only [Bool.or_eq_true, Bool.and_eq_true, decide_eq_true_eq]; omega
        have HN := Lib.hid (all_next HX.out HT.out hr)
        clear hr HT HX
        first | (obtain ⟨h1, h2⟩ := h1) | subst h1 | skip
        go_wp2_with fail
        all_goals
          go_roundw
          case rel => exact ⟨j + 1, by omega, by go_num, HN.out, by simp⟩
          case measure => simp [intOf]; omega
      · have hr : rightB x = false := by unfold rightB; simp; omega
        have HN := Lib.hid (rightS_bad HX.out hr)
        clear hr HT HX
        first | (obtain ⟨h1, h2⟩ := h1) | subst h1 | skip
        go_wp2_with fail
        all_goals first
          | (go_ret; exact ⟨ret_bool (by rw [HN.out]), by simp⟩)
          | (exfalso; omega)
          | (exfalso; simp_all; omega)
      · have hr : rightB x = true := by unfold rightB; simp only [Bool.or_eq_true, Bool.and_eq_true, decide_eq_true_eq]; omega
        have HN := Lib.hid (all_next HX.out HT.out hr)
        clear hr HT HX
        first | (obtain ⟨h1, h2⟩ := h1) | subst h1 | skip
        go_wp2_with fail
        all_goals
          go_roundw
          case rel => exact ⟨j + 1, by omega, by go_num, HN.out, by simp⟩
          case measure => simp [intOf]; omega
      · have hr : rightB x = false := by unfold rightB; simp; omega
        have HN := Lib.hid (rightS_bad HX.out hr)
        clear hr HT HX
        first | (obtain ⟨h1, h2⟩ := h1) | subst h1 | skip
        go_wp2_with fail
        all_goals first
          | (go_ret; exact ⟨ret_bool (by rw [HN.out]), by simp⟩)
          | (exfalso; omega)
          | (exfalso; simp_all; omega)
      · have hr : rightB x = true := by unfold rightB; simp only [Bool.or_eq_true, Bool.and_eq_true, decide_eq_true_eq]; omega
        have HN := Lib.hid (all_next HX.out HT.out hr)
        clear hr HT HX
        first | (obtain ⟨h1, h2⟩ := h1) | subst h1 | skip
        go_wp2_with fail
        all_goals
          go_roundw
          case rel => exact ⟨j + 1, by omega, by go_num, HN.out, by simp⟩
          case measure => simp [intOf]; omega
      · have hr : rightB x = false := by unfold rightB; simp; omega
        have HN := Lib.hid (rightS_bad HX.out hr)
        clear hr HT HX
        first | (obtain ⟨h1, h2⟩ := h1) | subst h1 | skip
        go_wp2_with fail
        all_goals first
          | (go_ret; exact ⟨ret_bool (by rw [HN.out]), by simp⟩)
          | (exfalso; omega)
          | (exfalso; simp_all; omega)
    · obtain rfl : s.size = j := by omega
      have hsz : rightS s = (decide (1 ≤ s.size) && decide (s.size ≤ 100)) := by
        unfold rightS
        have := HT.out
        rw [List.take_of_length_le (by rw [bys_len]; omega)] at this
        rw [this]; rfl
      have HS := Lib.hid hsz
      clear hsz HT
      by_cases h1 : 1 ≤ s.size <;> by_cases h2 : s.size ≤ 100
      all_goals
        go_wp2_with fail
        all_goals
          go_ret
          exact ⟨ret_bool (by rw [HS.out]; first | rfl | (simp [h1, h2]; done) | (simp [h1, h2]; omega)), by simp⟩
end Go.Proofs.YtbkgmeopdcealaaDoor
