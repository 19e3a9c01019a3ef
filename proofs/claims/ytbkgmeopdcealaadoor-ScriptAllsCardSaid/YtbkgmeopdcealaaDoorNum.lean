import Derived.Test.YtbkgmeopdcealaaDoorBase
import Derived.Test.YtbkgmeopdcealaaDoorShelf
import Derived.Lib.ItoaMem
import Derived.Lib.ItoaLen
namespace Go.Proofs.YtbkgmeopdcealaaDoor
open Go.ChangeShapes Go.WideShapes Go.ChangeAt Go.RowKit
set_option linter.unusedVariables false
set_option linter.unusedSimpArgs false
def digS : ByteArray := ⟨#[48, 49, 50, 51, 52, 53, 54, 55, 56, 57]⟩
def decS (n : Nat) : ByteArray := ⟨(Lib.decDigits n).toArray⟩
def oneS (n : Nat) : ByteArray := ⟨#[UInt8.ofNat (48 + n)]⟩
theorem decS_one (n : Nat) (h : n < 10) : oneS n = decS n := by
  unfold decS oneS
  rw [Lib.decDigits_one h]
theorem decS_more (n : Nat) (h : ¬ n < 10) : decS (n / 10) ++ oneS (n % 10) = decS n := by
  rw [decS_one (n % 10) (by omega)]
  unfold decS
  rw [Lib.decDigits_one (i := n % 10) (by omega)]
  conv => rhs; rw [Lib.decDigits, dif_neg h]
  apply ByteArray.ext
  simp [ByteArray.data_append]
theorem decS_size (n : Nat) (h : n < 18446744073709551616) : (decS n).size ≤ 20 := by
  show (Lib.decDigits n).toArray.size ≤ 20
  simp only [List.size_toArray]
  rw [Lib.decDigits_length]
  by_cases h1 : 1 ≤ n
  · have := Lib.numDigits_eq n h1 h; split at this <;> omega
  · obtain rfl : n = 0 := by omega
    decide +kernel
def itS (n : Int) : ByteArray := ⟨(Lib.itoa n).toArray⟩
theorem itS_nat (n : Nat) : itS (n : Int) = decS n := by unfold itS decS; rw [Lib.itoa_nonneg]
/-- The table of powers of ten is laid. -/
def Pow (w : World) : Prop := 7 < w.heap.size ∧ Lib.TabIs Tryd.prog w "internal/strconv.uint64pow10" .u64 Lib.pow10Tab
theorem gPow : Tryd.prog.globalNamed "internal/strconv.uint64pow10" = some 7 := by kernel_rfl
theorem Pow.of_heap {w w' : World} (h : Pow w) (hs : w.heap.size ≤ w'.heap.size) (hk : w'.heap[7]? = w.heap[7]?) : Pow w' := by
  refine ⟨Nat.lt_of_lt_of_le h.1 hs, ?_⟩
  have := h.2
  unfold Lib.TabIs World.var? at *
  rw [gPow] at this ⊢
  simp only [Option.bind_some] at this ⊢
  rw [hk]
  exact this
theorem Pow.below {w w' : World} (h : Pow w) (hb : Below w.heap.size w w') : Pow w' := h.of_heap hb.size (hb.block 7 h.1)
theorem below_grow (w : World) (k : Nat) (os : Array Obj) : Below w.heap.size w (Go.Sort.grow (w.drewN k) os) :=
  ⟨rfl, rfl, rfl, by show _ ≤ (w.heap ++ os).size; simp, fun i hi => by show (w.heap ++ os)[i]? = _; rw [Array.getElem?_append_left hi]⟩
theorem itoa_any (n : Int) (w : World) (hp : Pow w) (h0 : -9223372036854775808 ≤ n) (h1 : n ≤ 9223372036854775807) : Calls Tryd.prog 49 #[.int .i64 n] w fun e w' => e = .returned (.string (itS n)) ∧ Below w.heap.size w w' :=
  (Tryd.strconv_Itoa n h0 h1 w hp.2).mono fun _ _ ⟨he, k, os, hw⟩ => ⟨he, hw ▸ below_grow w k os⟩
theorem empty_toList : ByteArray.empty.toList = [] := by rw [ByteArray.toList_eq]; rfl
theorem toList_inj {a b : ByteArray} (h : a.toList = b.toList) : a = b := by
  have h2 : a.data.toList = b.data.toList := by rw [← ByteArray.toList_eq a, ← ByteArray.toList_eq b]; exact h
  cases a; cases b; simp at h2; rw [h2]
theorem toList_ne {a b : ByteArray} (h : a ≠ b) : (a.toList == b.toList) = false := by
  rw [beq_eq_false_iff_ne]; exact fun e => h (toList_inj e)
theorem ba_ext {a b : ByteArray} (h : a.data.toList = b.data.toList) : a = b := by cases a; cases b; simp at h; rw [h]
theorem itS_neg (k : Nat) (h : 0 < k) : itS (-(k : Int)) = (⟨#[45]⟩ : ByteArray) ++ decS k := by
  apply ba_ext
  unfold itS decS Lib.itoa
  rw [if_pos (by omega), Int.natAbs_neg, Int.natAbs_natCast]
  simp [ByteArray.data_append]
theorem itS_le (n : Int) (h0 : -9223372036854775808 ≤ n) (h1 : n ≤ 9223372036854775807) : (itS n).size ≤ 21 := Lib.itoa_length_le n h0 h1
end Go.Proofs.YtbkgmeopdcealaaDoor
