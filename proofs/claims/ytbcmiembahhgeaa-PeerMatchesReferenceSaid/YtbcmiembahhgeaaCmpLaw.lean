import Derived.Test.YtbcmiembahhgeaaCmp
namespace Go.Proofs.Ytbcmiembahhgeaa
set_option linter.unusedVariables false
theorem lessL_asymm (x : List Nat) : ∀ y, lessL x y = true → lessL y x = false ∧ x ≠ y := by
  induction x with
  | nil => intro y h; cases y with
    | nil => simp [lessL] at h
    | cons b y => simp [lessL]
  | cons a x ih =>
    intro y h
    cases y with
    | nil => simp [lessL] at h
    | cons b y =>
      by_cases e : a = b
      · subst e
        simp only [lessL, if_true] at h ⊢
        obtain ⟨h1, h2⟩ := ih y h
        exact ⟨h1, by simpa using h2⟩
      · have e' : ¬ b = a := fun h => e h.symm
        simp only [lessL, if_neg e, if_neg e', decide_eq_true_eq] at h ⊢
        refine ⟨by simp; omega, by simp [e]⟩
theorem lessL_total (x : List Nat) : ∀ y, lessL x y = false → x ≠ y → lessL y x = true := by
  induction x with
  | nil => intro y h hn; cases y with
    | nil => exact absurd rfl hn
    | cons b y => simp [lessL] at h
  | cons a x ih =>
    intro y h hn
    cases y with
    | nil => rfl
    | cons b y =>
      by_cases e : a = b
      · subst e
        simp only [lessL, if_true] at h ⊢
        exact ih y h (by simpa using hn)
      · have e' : ¬ b = a := fun h => e h.symm
        simp only [lessL, if_neg e, if_neg e', decide_eq_false_iff_not, decide_eq_true_eq] at h ⊢
        omega
theorem lessL_irrefl (x : List Nat) : lessL x x = false := by
  cases h : lessL x x
  · rfl
  · exact absurd rfl (lessL_asymm x x h).2
theorem bys_inj {a b : ByteArray} (h : bys a = bys b) : a.toList = b.toList := by
  rw [ByteArray.toList_eq, ByteArray.toList_eq]
  unfold bys at h
  exact (List.map_inj_right (fun x y e => UInt8.toNat_inj.1 e)).1 h
theorem cmpS_eq (a b : ByteArray) : cmpS a b = if lessL (bys a) (bys b) = true then -1 else if lessL (bys b) (bys a) = true then 1 else 0 := by
  have e1 : Op.bytesLess a.toList b.toList = lessL (bys a) (bys b) := by rw [ByteArray.toList_eq, ByteArray.toList_eq, bytesLess_eq]; rfl
  unfold cmpS
  rw [e1]
  by_cases h : lessL (bys a) (bys b) = true
  · rw [if_pos h, if_pos h]
  · rw [if_neg h, if_neg h]
    by_cases he : a.toList = b.toList
    · have hb : bys a = bys b := by unfold bys; rw [← ByteArray.toList_eq, ← ByteArray.toList_eq, he]
      rw [if_pos (by simp [he]), hb, lessL_irrefl]; rfl
    · have hn : bys a ≠ bys b := fun e => he (bys_inj e)
      rw [if_neg (by simp [he]), if_pos (lessL_total _ _ (by simpa using h) hn)]
end Go.Proofs.Ytbcmiembahhgeaa
