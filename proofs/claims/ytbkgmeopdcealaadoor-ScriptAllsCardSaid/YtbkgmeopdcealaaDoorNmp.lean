import Derived.Test.YtbkgmeopdcealaaDoorRnm
import Derived.Lib.AtoiAll
namespace Go.Proofs.YtbkgmeopdcealaaDoor
open Go.ChangeShapes Go.WideShapes Go.ChangeAt Go.RowKit Go.Sort
set_option linter.unusedVariables false
set_option linter.unusedSimpArgs false
def dv (l : List UInt8) : Nat := l.foldl (fun a c => a * 10 + (c.toNat - 48)) 0
theorem dig_toNat (n : Nat) (h : n < 10) : (UInt8.ofNat (48 + n)).toNat = 48 + n := by simp; omega
theorem dec_ind {p : Nat → Prop} (h0 : ∀ n, n < 10 → p n) (h1 : ∀ n, ¬ n < 10 → p (n / 10) → p n) (n : Nat) : p n := by
  induction n using Nat.strongRecOn with
  | ind n ih =>
    by_cases h : n < 10
    · exact h0 n h
    · exact h1 n h (ih (n / 10) (by omega))
theorem dec_more (n : Nat) (h : ¬ n < 10) : Lib.decDigits n = Lib.decDigits (n / 10) ++ [UInt8.ofNat (48 + n % 10)] := by
  rw [← Lib.decDigits_one (i := n % 10) (by omega)]
  conv => lhs; rw [Lib.decDigits, dif_neg h]
  rw [Lib.decDigits_one (i := n % 10) (by omega)]
theorem dv_dec (n : Nat) : dv (Lib.decDigits n) = n := by
  induction n using dec_ind with
  | h0 n h => rw [Lib.decDigits_one h]; unfold dv; simp only [List.foldl_cons, List.foldl_nil]; rw [dig_toNat n h]; omega
  | h1 n h ih =>
    rw [dec_more n h]
    unfold dv at *
    rw [List.foldl_append, ih]
    simp only [List.foldl_cons, List.foldl_nil]
    rw [dig_toNat _ (by omega)]
    omega
theorem dec_digit (n : Nat) : ∀ c ∈ Lib.decDigits n, 48 ≤ c.toNat ∧ c.toNat ≤ 57 := by
  induction n using dec_ind with
  | h0 n h => rw [Lib.decDigits_one h]; intro c hc; simp only [List.mem_singleton] at hc; subst hc; rw [dig_toNat n h]; omega
  | h1 n h ih =>
    rw [dec_more n h]
    intro c hc
    rw [List.mem_append, List.mem_singleton] at hc
    rcases hc with hc | rfl
    · exact ih c hc
    · rw [dig_toNat _ (by omega)]; omega
theorem dec_ne (n : Nat) : Lib.decDigits n ≠ [] := by
  by_cases h : n < 10
  · rw [Lib.decDigits_one h]; simp
  · rw [dec_more n h]; simp
theorem pum10 (n : Nat) : n < 9223372036854775808 → ∀ r, Lib.parseUint10 0 (Lib.decDigits n ++ r) = Lib.parseUint10 n r := by
  induction n using dec_ind with
  | h0 n h =>
    intro _ r
    rw [Lib.decDigits_one h, List.singleton_append, Lib.parseUint10, dig_toNat n h, if_pos (by omega), if_neg (by omega), if_neg (by omega)]
    congr 1
    omega
  | h1 n h ih =>
    intro hn r
    rw [dec_more n h, List.append_assoc, ih (by omega), List.singleton_append, Lib.parseUint10, dig_toNat _ (by omega), if_pos (by omega), if_neg (by omega), if_neg (by omega)]
    congr 1
    omega
theorem atoi_dec (n : Nat) (h : n < 9223372036854775808) : Lib.atoiAll (Lib.decDigits n) = .ok (n : Int) := by
  have h1 := pum10 n h []
  rw [List.append_nil, Lib.parseUint10] at h1
  have hd := dec_digit n
  cases hl : Lib.decDigits n with
  | nil => exact absurd hl (dec_ne n)
  | cons c r =>
    rw [hl] at h1 hd
    have hc := hd c (by simp)
    unfold Lib.atoiAll
    simp only
    rw [if_neg (by omega)]
    unfold Lib.parseMag
    rw [if_neg (by simp), h1]
    simp only
    rw [if_neg (by omega), if_neg (by omega), if_neg (by omega)]
/-- The number of a word, and whether the word is its decimal form, up to a greatest one. -/
def dvS (s : ByteArray) : Nat := dv s.data.toList
def numB (s : ByteArray) (m : Nat) : Bool := decide (decS (dvS s) = s) && decide (dvS s ≤ m)
theorem dvS_dec (n : Nat) : dvS (decS n) = n := by
  unfold dvS decS
  show dv (Lib.decDigits n).toArray.toList = n
  rw [List.toList_toArray, dv_dec]
theorem numB_dec (n m : Nat) (h : n ≤ m) : numB (decS n) m = true := by unfold numB; rw [dvS_dec]; simp [h]
theorem numB_atoi {s : ByteArray} {m : Nat} (hm : m < 9223372036854775808) (h : numB s m = true) : Lib.atoiAll s.data.toList = .ok (dvS s : Int) := by
  unfold numB at h
  simp only [Bool.and_eq_true, decide_eq_true_eq] at h
  have e : s.data.toList = Lib.decDigits (dvS s) := by
    conv => lhs; rw [← h.1]
    unfold decS
    simp
  rw [e]
  exact atoi_dec _ (by omega)
end Go.Proofs.YtbkgmeopdcealaaDoor
