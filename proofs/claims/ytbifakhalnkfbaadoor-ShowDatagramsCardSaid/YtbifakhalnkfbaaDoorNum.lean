import Derived.Test.YtbifakhalnkfbaaDoorBase
import Derived.Test.YtbifakhalnkfbaaDoorShelf
import Derived.Lib.ItoaMem
import Derived.Lib.ItoaLen
namespace Go.Proofs.YtbifakhalnkfbaaDoor
open Go.ChangeShapes Go.WideShapes Go.ChangeAt Go.RowKit
set_option linter.unusedVariables false
set_option linter.unusedSimpArgs false
def digS : ByteArray := ⟨#[48, 49, 50, 51, 52, 53, 54, 55, 56, 57]⟩
def decS (n : Nat) : ByteArray := ⟨(Lib.decDigits n).toArray⟩
def oneS (n : Nat) : ByteArray := ⟨#[UInt8.ofNat (48 + n)]⟩
theorem decS_one (n : Nat) (h : n < 10) : oneS n = decS n := by
  unfold decS oneS
  rw [Lib.decDigits_one h]
theorem decS_more (n : Nat) (h : ¬ n < 10) : decS (n / 10) ++ oneS (n % 10) = decS n := by
  rw [decS_one (n % 10) (by omega)]
  unfold decS
  rw [Lib.decDigits_one (i := n % 10) (by omega)]
  conv => rhs; rw [Lib.decDigits, dif_neg h]
  apply ByteArray.ext
  simp [ByteArray.data_append]
theorem decS_size (n : Nat) (h : n < 18446744073709551616) : (decS n).size ≤ 20 := by
  show (Lib.decDigits n).toArray.size ≤ 20
  simp only [List.size_toArray]
  rw [Lib.decDigits_length]
  by_cases h1 : 1 ≤ n
  · have := Lib.numDigits_eq n h1 h; split at this <;> omega
  · obtain rfl : n = 0 := by omega
    decide +kernel
def itS (n : Int) : ByteArray := ⟨(Lib.itoa n).toArray⟩
theorem itS_nat (n : Nat) : itS (n : Int) = decS n := by unfold itS decS; rw [Lib.itoa_nonneg]
/-- The table of powers of ten is laid. -/
def Pow (w : World) : Prop := 0 < w.heap.size ∧ Lib.TabIs Tryd.prog w "internal/strconv.uint64pow10" .u64 Lib.pow10Tab
theorem gPow : Tryd.prog.globalNamed "internal/strconv.uint64pow10" = some 0 := by kernel_rfl
theorem Pow.of_heap {w w' : World} (h : Pow w) (hs : w.heap.size ≤ w'.heap.size) (hk : w'.heap[0]? = w.heap[0]?) : Pow w' := by
  refine ⟨Nat.lt_of_lt_of_le h.1 hs, ?_⟩
  have := h.2
  unfold Lib.TabIs World.var? at *
  rw [gPow] at this ⊢
  simp only [Option.bind_some] at this ⊢
  rw [hk]
  exact this
theorem Pow.below {w w' : World} (h : Pow w) (hb : Below w.heap.size w w') : Pow w' := h.of_heap hb.size (hb.block 0 h.1)
theorem below_grow (w : World) (k : Nat) (os : Array Obj) : Below w.heap.size w (Go.Sort.grow (w.drewN k) os) :=
  ⟨rfl, rfl, rfl, by show _ ≤ (w.heap ++ os).size; simp, fun i hi => by show (w.heap ++ os)[i]? = _; rw [Array.getElem?_append_left hi]⟩
theorem itoa_any (n : Int) (w : World) (hp : Pow w) (h0 : -9223372036854775808 ≤ n) (h1 : n ≤ 9223372036854775807) : Calls Tryd.prog 25 #[.int .i64 n] w fun e w' => e = .returned (.string (itS n)) ∧ Below w.heap.size w w' :=
  (Tryd.strconv_Itoa n h0 h1 w hp.2).mono fun _ _ ⟨he, k, os, hw⟩ => ⟨he, hw ▸ below_grow w k os⟩
set_option maxRecDepth 100000 in
set_option maxHeartbeats 4000000 in
theorem fuint38 (u : Nat) (w : World) (hu : u < 18446744073709551616) (hp : Pow w) : Calls Tryd.prog 38 #[.int .u64 u, .int .i64 10] w fun e w' => e = .returned (.string (decS u)) ∧ Below w.heap.size w w' := by
  by_cases hs : u < 100
  · have hui : (u : Int) < 100 := by omega
    go_enter Tryd.func38, Tryd.ntmps38
    go_wp2_with (go_at_call 52; refine (Tryd.internal_strconv_small u hs _).mono ?_; rintro e w' ⟨rfl, rfl⟩)
    go_ret
    exact ⟨rfl, Below.refl _ _⟩
  · have hui : (100 : Int) ≤ (u : Int) := by omega
    have hu1 : 1 ≤ u := by omega
    have hnd20 : Lib.nDigits u ≤ 20 := by have := Lib.numDigits_eq u hu1 hu; split at this <;> omega
    have hal : Tryd.prog.arrayLen 89 = 24 := by simp [Program.arrayLen, Tryd.underlying89]
    have hsl1 : ∀ W, (Instr.sliceAt 89 (.pointer (some ⟨w.heap.size, 0, none⟩)) none (some (.int .i64 (Lib.nDigits u : Int))) none).run Tryd.prog W = .ok (.slice (some ⟨w.heap.size, 0, none⟩) (Lib.nDigits u) 24) W := fun W => by
      rw [run_sliceAt_array_h (P := Tryd.prog) W 89 ⟨w.heap.size, 0, none⟩ (by simp [Program.arrayLen, Program.elem, Tryd.underlying89]) .i64 (Lib.nDigits u : Int) (by omega) (by rw [hal]; omega)]
      go_simp
    have hH0 : Go.Sort.Holds (fun (b : UInt8) => Value.int .u8 (b.toNat : Int)) (w.alloc (.cells Lib.zeros24 89)) w.heap.size 0 (Array.replicate (Lib.nDigits u) 0) := fun j hj => by
      have hj' : j < Lib.nDigits u := by simpa using hj
      refine ⟨?_, World.frozen?_alloc_new _ _ _ _⟩
      rw [World.cell?_alloc_new, Lib.zeros24_at _ (by omega), getElem!_pos _ j hj]
      simp
    have hfmt := Tryd.internal_strconv_formatBase10 w.heap.size 0 24 u (Array.replicate (Lib.nDigits u) 0) (w.alloc (.cells Lib.zeros24 89)) hH0 (by rw [Array.size_replicate]; exact Lib.lt_pow_nDigits u) hu (by rw [Array.size_replicate]; omega)
    rw [Array.size_replicate] at hfmt
    have HH0 := Lib.hid hH0
    have HP := Lib.hid (hp.below ((Below.refl _ w).alloc (Nat.le_refl _) (.cells Lib.zeros24 89)))
    clear hH0 hal hp
    go_enter Tryd.func38, Tryd.ntmps38
    go_wp2_with (first | (go_at_call 53; refine (Tryd.internal_strconv_numDigits u hu1 hu _ HP.out.2).mono ?_; rintro e w' ⟨rfl, rfl⟩))
    go_at_call 54
    refine hfmt.mono ?_
    rintro e w' ⟨rfl, k, v', dk, rfl, hF⟩
    have hcv : (convert 39 9 (.slice (some ⟨w.heap.size, 0, none⟩) (Lib.nDigits u) 24)).run Tryd.prog ((Go.Sort.putRow (fun (b : UInt8) => Value.int .u8 (b.toNat : Int)) (w.alloc (.cells Lib.zeros24 89)) w.heap.size 0 dk).drewN k) = .ok (.string (decS u)) ((Go.Sort.putRow (fun (b : UInt8) => Value.int .u8 (b.toNat : Int)) (w.alloc (.cells Lib.zeros24 89)) w.heap.size 0 dk).drewN k) := by
      have h := run_convert_bytes_back (P := Tryd.prog) ((Go.Sort.putRow (fun (b : UInt8) => Value.int .u8 (b.toNat : Int)) (w.alloc (.cells Lib.zeros24 89)) w.heap.size 0 dk).drewN k) 39 9 5 ⟨w.heap.size, 0, none⟩ 24 (Lib.decDigits u) Tryd.underlying39 Tryd.underlying5 Tryd.underlying9 (fun j hj => by
        rw [Lib.row_is_numeral hF j hj, Lib.add_plain, World.cell?_drewN]
        exact Go.Sort.cell?_putRow (fun (b : UInt8) => Value.int .u8 (b.toNat : Int)) _ w.heap.size 0 _ dk HH0.out (by rw [hF.size, Array.size_replicate]) j (by rw [hF.size]; rw [Lib.decDigits_length] at hj; exact hj))
      rw [Lib.decDigits_length] at h
      exact h
    have hfin : Below w.heap.size w ((Go.Sort.putRow (fun (b : UInt8) => Value.int .u8 (b.toNat : Int)) (w.alloc (.cells Lib.zeros24 89)) w.heap.size 0 dk).drewN k) := by
      rw [Go.Sort.alloc_eq_grow]
      obtain ⟨os', _, e⟩ := Go.Sort.putRow_grow_new (fun (b : UInt8) => Value.int .u8 (b.toNat : Int)) w #[.cells Lib.zeros24 89] w.heap.size 0 dk (Nat.le_refl _)
      rw [e]
      exact below_drewN (below_grow w 0 os') k
    have HF := Lib.hid hfin
    clear hfin hF
    go_wp2_with fail
    go_ret
    exact ⟨rfl, HF.out⟩
theorem fuint_any (u : Nat) (w : World) (hu : u < 18446744073709551616) (hp : Pow w) : Calls Tryd.prog 22 #[.int .u64 u, .int .i64 10] w fun e w' => e = .returned (.string (decS u)) ∧ Below w.heap.size w w' := by
  have hf := fuint38 u w hu hp
  clear hp
  go_enter Tryd.func22, Tryd.ntmps22
  go_wp2_with (go_at_call 38; refine hf.mono ?_; rintro _ w1 ⟨rfl, hb⟩; refine Hid.out ?_)
  refine Lib.hid ?_
  go_wp2_with fail
  go_ret
  exact ⟨rfl, hb⟩
end Go.Proofs.YtbifakhalnkfbaaDoor
