import Derived.Test.YtbcmiembahhgeaaNil
namespace Go.Proofs.Ytbcmiembahhgeaa
open Go.ChangeShapes Go.WideShapes Go.ChangeAt Go.RowKit
set_option linter.unusedVariables false
set_option linter.unusedSimpArgs false
theorem nan_any (a : ByteArray) (w : World) : Calls Try.prog 24 #[.string a] w fun e w' => e = .returned (.bool false) ∧ w = w' := by
  go_enter Try.func24, Try.ntmps24
  go_wp2_with fail
  go_ret
  exact ⟨ret_bool (by simp), by simp⟩
/-- What cmp.Compare gives. -/
def cmpS (a b : ByteArray) : Int := if Op.bytesLess a.toList b.toList = true then -1 else if (a.toList == b.toList) = true then 0 else 1
theorem compare_any (a b : ByteArray) (w : World) : Calls Try.prog 20 #[.string a, .string b] w fun e w' => e = .returned (.int .i64 (cmpS a b)) ∧ w = w' := by
  obtain ⟨r, hr⟩ : ∃ r, cmpS a b = r := ⟨_, rfl⟩
  rw [hr]
  unfold cmpS at hr
  cases h1 : Op.bytesLess a.toList b.toList
  · cases h2 : (a.toList == b.toList)
    · have HR := Lib.hid (show r = 1 by rw [← hr, h1, h2]; rfl)
      have h3 : (!a.toList == b.toList) = true := by simp [h2]
      clear hr
      go_enter Try.func20, Try.ntmps20
      go_wp2_with (go_at_call 24; refine (nan_any _ _).mono ?_; rintro _ _ ⟨rfl, rfl⟩)
      all_goals first
        | (go_ret; exact ⟨by rw [HR.out]; rfl, by simp⟩)
        | (exfalso; simp_all)
    · have HR := Lib.hid (show r = 0 by rw [← hr, h1, h2]; rfl)
      have h3 : (!a.toList == b.toList) = false := by simp [h2]
      clear hr
      go_enter Try.func20, Try.ntmps20
      go_wp2_with (go_at_call 24; refine (nan_any _ _).mono ?_; rintro _ _ ⟨rfl, rfl⟩)
      all_goals first
        | (go_ret; exact ⟨by rw [HR.out]; rfl, by simp⟩)
        | (exfalso; simp_all)
  · have HR := Lib.hid (show r = -1 by rw [← hr, h1]; rfl)
    clear hr
    go_enter Try.func20, Try.ntmps20
    go_wp2_with (go_at_call 24; refine (nan_any _ _).mono ?_; rintro _ _ ⟨rfl, rfl⟩)
    all_goals first
      | (go_ret; exact ⟨by rw [HR.out]; rfl, by simp⟩)
      | (exfalso; simp_all)
theorem pcompare_any (a b : ByteArray) (w : World) : Calls Try.prog 17 #[.string a, .string b] w fun e w' => e = .returned (.int .i64 (cmpS a b)) ∧ w = w' := by
  have h := compare_any a b w
  go_enter Try.func17, Try.ntmps17
  go_wp2_with (go_at_call 20; refine h.mono ?_; rintro _ _ ⟨rfl, rfl⟩)
  go_ret
  exact ⟨rfl, by simp⟩
theorem bytesLess_eq (x : List UInt8) : ∀ y : List UInt8, Op.bytesLess x y = lessL (x.map UInt8.toNat) (y.map UInt8.toNat) := by
  induction x with
  | nil => intro y; cases y <;> rfl
  | cons a x ih =>
    intro y
    cases y with
    | nil => rfl
    | cons b y =>
      show (decide (a < b) || (a == b && Op.bytesLess x y)) = if a.toNat = b.toNat then lessL (x.map UInt8.toNat) (y.map UInt8.toNat) else decide (a.toNat < b.toNat)
      rw [ih y]
      by_cases h : a = b
      · subst h; simp [UInt8.lt_irrefl]
      · have h2 : a.toNat ≠ b.toNat := fun e => h (UInt8.toNat_inj.1 e)
        rw [if_neg h2]
        have h3 : (a == b) = false := by simp [h]
        rw [h3]; simp [UInt8.lt_iff_toNat_lt]
end Go.Proofs.Ytbcmiembahhgeaa
