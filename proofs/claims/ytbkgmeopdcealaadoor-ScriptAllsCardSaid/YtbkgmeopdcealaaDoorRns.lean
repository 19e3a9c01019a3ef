import Derived.Test.YtbkgmeopdcealaaDoorRgt
import Derived.Shelf.Strings.FuncGrows
import Derived.Lib.DecodeN
namespace Go.Proofs.YtbkgmeopdcealaaDoor
open Go.ChangeShapes Go.WideShapes Go.ChangeAt Go.RowKit
set_option linter.unusedVariables false
set_option linter.unusedSimpArgs false
theorem rightB_big {x : Nat} (h : 128 ≤ x) : rightB x = false := by unfold rightB; simp; omega
theorem decodeN_big (n b0 b1 b2 b3 : Nat) (h : 128 ≤ b0) : 128 ≤ (Lib.decodeN n b0 b1 b2 b3).1 := by
  unfold Lib.decodeN
  repeat' split
  all_goals first | omega | (simp only; omega)
theorem decodeN_small (n b0 b1 b2 b3 : Nat) (h : b0 < 128) : Lib.decodeN n b0 b1 b2 b3 = (b0, 1) := by
  unfold Lib.decodeN; rw [if_pos h]
theorem get_bang (s : ByteArray) (i : Nat) (h : i < s.size) : (s.get! i).toNat = (bys s)[i]'(by rw [bys_len]; exact h) := by
  simp only [bys, List.getElem_map, Array.getElem_toList]
  congr 1
  have h' : i < s.data.size := h
  show s.data[i]! = _
  rw [getElem!_pos s.data i h']
theorem decode_right (s : ByteArray) (i : Nat) (h : i < s.size) (hr : rightB ((bys s)[i]'(by rw [bys_len]; exact h)) = true) :
    Utf8.decode s i = ((bys s)[i]'(by rw [bys_len]; exact h), 1) := by
  have hb : (bys s)[i]'(by rw [bys_len]; exact h) < 128 := by
    rcases Nat.lt_or_ge ((bys s)[i]'(by rw [bys_len]; exact h)) 128 with h1 | h1
    · exact h1
    · rw [rightB_big h1] at hr; cases hr
  rw [Lib.decode_at, get_bang s i h, decodeN_small _ _ _ _ _ hb]
theorem decode_wrong (s : ByteArray) (i : Nat) (h : i < s.size) (hr : rightB ((bys s)[i]'(by rw [bys_len]; exact h)) = false) :
    rightB (Utf8.decode s i).1 = false := by
  rw [Lib.decode_at, get_bang s i h]
  rcases Nat.lt_or_ge ((bys s)[i]'(by rw [bys_len]; exact h)) 128 with h1 | h1
  · rw [decodeN_small _ _ _ _ _ h1]; exact hr
  · exact rightB_big (decodeN_big _ _ _ _ _ h1)
/-- Some rune is wrong exactly if some byte is. -/
theorem idx_wrong (s : ByteArray) : ∀ (f pos : Nat), s.size ≤ pos + f → pos ≤ s.size →
    decide (0 ≤ Lib.idxFuncFrom (fun r => !rightB r) true s f pos) = !((bys s).drop pos).all rightB := by
  intro f
  induction f with
  | zero =>
    intro pos h1 h2
    rw [List.drop_eq_nil_of_le (by rw [bys_len]; omega)]
    simp [Lib.idxFuncFrom]
  | succ f ih =>
    intro pos h1 h2
    by_cases hp : pos < s.size
    · have hl : pos < (bys s).length := by rw [bys_len]; exact hp
      rw [List.drop_eq_getElem_cons hl, List.all_cons]
      unfold Lib.idxFuncFrom
      rw [if_pos hp]
      cases hr : rightB ((bys s)[pos]'hl)
      · rw [if_pos (by rw [decode_wrong s pos hp hr]; rfl)]
        simp
      · rw [decode_right s pos hp hr, if_neg (by simp [hr]), ih (pos + 1) (by omega) (by omega)]
        simp
    · rw [Lib.idxFuncFrom_end _ _ _ _ _ hp, List.drop_eq_nil_of_le (by rw [bys_len]; omega)]
      simp
theorem idxFunc_wrong (s : ByteArray) : decide (0 ≤ Lib.idxFunc (fun r => !rightB r) true s) = !(bys s).all rightB := by
  unfold Lib.idxFunc
  rw [idx_wrong s s.size 0 (by omega) (by omega), List.drop_zero]
end Go.Proofs.YtbkgmeopdcealaaDoor
