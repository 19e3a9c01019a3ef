import Derived.Test.YtbkgmeopdcealaaDoorSme
import Derived.Test.YtbkgmeopdcealaaDoorHxw
import Derived.Test.YtbkgmeopdcealaaDoorNum
namespace Go.Proofs.YtbkgmeopdcealaaDoor
open Go.ChangeShapes Go.WideShapes Go.ChangeAt Go.RowKit Go.Sort
set_option linter.unusedVariables false
set_option linter.unusedSimpArgs false
theorem str_eq {xs ys : List Nat} (hx : ∀ x ∈ xs, x < 256) (hy : ∀ x ∈ ys, x < 256) : ((str xs).toList == (str ys).toList) = decide (xs = ys) := by
  by_cases h : xs = ys
  · subst h; simp
  · rw [decide_eq_false h]
    exact toList_ne (fun e => h (by rw [← bys_str xs hx, ← bys_str ys hy, e]))
/-- bytes.Equal. -/
theorem bequal_any (A B : Option Addr) (n c m d : Nat) (xs ys : List Nat) (w : World) (hx : Bys w A n xs) (hy : Bys w B m ys) :
    Calls Tryd.prog 28 #[.slice A n c, .slice B m d] w fun e w' => e = .returned (.bool (decide (xs = ys))) ∧ w = w' :=
  (Tryd.bytes_Equal_strs _ _ _ _ w (conv_bys hx) (conv_bys hy)).mono fun e w' ⟨he, hw⟩ => ⟨by rw [he, str_eq hx.2 hy.2], hw.symm⟩
end Go.Proofs.YtbkgmeopdcealaaDoor
