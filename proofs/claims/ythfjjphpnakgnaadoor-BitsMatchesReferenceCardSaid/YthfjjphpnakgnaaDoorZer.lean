import Derived.Test.YthfjjphpnakgnaaDoorXo
import Derived.Lib.TrailingZeros
import Derived.Lib.LaidTab
import Derived.Laws.Bits64b
namespace Go.Proofs.YthfjjphpnakgnaaDoor
open Go.ChangeShapes Go.WideShapes Go.ChangeAt Go.RowKit
set_option linter.unusedVariables false
set_option linter.unusedSimpArgs false
/-- The look-up table in its variable. -/
def Tab (w : World) : Prop := ∀ j, j < Lib.deBruijn64tab.length → w.cell? ⟨0, j, none⟩ = some (.int .u8 (Lib.deBruijn64tab.getD j 0 : Nat))
theorem Tab.below {w w' : World} (h : Tab w) (hb : Below w.heap.size w w') : Tab w' := fun j hj => (hb.cell (p := ⟨0, j, none⟩) (lt_of_cell (h j hj))).trans (h j hj)
theorem Tab.drewN {w : World} (h : Tab w) (k : Nat) : Tab (w.drewN k) := h
theorem tz_key (x a : Nat) (hx : x < 18446744073709551616) (hx0 : x ≠ 0) (hlow : x &&& (18446744073709551616 - x) = a) :
    IntKind.u64.wrap (bits BinOp.and IntKind.u64 (x : Int) (IntKind.u64.wrap (-(x : Int))) * 285870213051353865) / 288230376151711744 = ((a * 285870213051353865 % 18446744073709551616 / 288230376151711744 : Nat) : Int) := by
  have e1 : IntKind.u64.wrap (-(x : Int)) = ((18446744073709551616 - x : Nat) : Int) := by rw [IntKind.wrap_u64]; omega
  rw [e1, u64_and_nat x _ hx (by omega), hlow, IntKind.wrap_u64]
  omega
set_option maxRecDepth 100000 in
set_option maxHeartbeats 1000000 in
theorem tz_core (x k idx : Nat) (w : World) (hx0 : ((x : Int) == 0) = false)
    (key : IntKind.u64.wrap (bits BinOp.and IntKind.u64 (x : Int) (IntKind.u64.wrap (-(x : Int))) * 285870213051353865) / 288230376151711744 = (idx : Int))
    (hi : idx < 64) (hk : k < 64) (hcell : w.cell? ⟨0, idx, none⟩ = some (.int .u8 k)) :
    Calls Tryd.prog 22 #[.int .u64 x] w fun e w' => e = .returned (.int .i64 k) ∧ w = w' := by
  go_enter Tryd.func22, Tryd.ntmps22
  go_wp2_with (simp only [key])
  go_ret
  exact ⟨rfl, rfl⟩
set_option maxRecDepth 100000 in
theorem tz_zero (w : World) :
    Calls Tryd.prog 22 #[.int .u64 0] w fun e w' => e = .returned (.int .i64 64) ∧ w = w' := by
  go_enter Tryd.func22, Tryd.ntmps22
  go_wp2
  go_ret
  exact ⟨rfl, rfl⟩
theorem tz_any (x : Nat) (hx : x < 18446744073709551616) (w : World) (hT : Tab w) :
    Calls Tryd.prog 22 #[.int .u64 x] w fun e w' => e = .returned (.int .i64 (Lib.ctz 64 x)) ∧ w = w' := by
  by_cases hx0 : x = 0
  · subst hx0
    exact tz_zero w
  · obtain ⟨hlow, hk⟩ := Lib.lowest_bit 64 x hx0 hx
    obtain ⟨hi, htab⟩ := Lib.deBruijn64_at _ hk
    have hcell := hT _ hi
    rw [htab] at hcell
    exact tz_core x _ _ w (by simp; omega) (tz_key x _ hx hx0 hlow) hi hk hcell
set_option maxRecDepth 100000 in
theorem zeros_any (x : Nat) (hx : x < 18446744073709551616) (w : World) (hT : Tab w) :
    Calls Tryd.prog 19 #[.int .u64 x] w fun e w' => e = .returned (.int .i64 (Lib.ctz 64 x)) ∧ w = w' := by
  have ht := tz_any x hx w hT
  clear hT
  go_enter Tryd.func19, Tryd.ntmps19
  go_wp2_with (go_at_call 22; refine ht.mono ?_; rintro _ _ ⟨rfl, rfl⟩)
  go_ret
  exact ⟨rfl, rfl⟩
theorem ctz_of (x j r : Nat) (hx : x < 18446744073709551616) (h : x = 2 ^ j * (2 * r + 1)) : Lib.ctz 64 x = j := by
  have hx0 : x ≠ 0 := by
    have := Nat.pow_pos (n := j) (show 0 < 2 by omega)
    intro h0; rw [h0] at h
    have := Nat.mul_pos this (show 0 < 2 * r + 1 by omega)
    omega
  unfold Lib.ctz
  rw [if_neg hx0]
  obtain ⟨m, hm, _⟩ := Lib.ctzFrom_spec 64 x (by omega) hx
  generalize Lib.ctzFrom 64 x = c at *
  rcases Nat.lt_trichotomy c j with hlt | heq | hgt
  · exfalso
    obtain ⟨d, rfl⟩ : ∃ d, j = c + 1 + d := ⟨j - (c + 1), by omega⟩
    rw [hm, Nat.pow_add, Nat.pow_succ, Nat.mul_assoc, Nat.mul_assoc] at h
    have := Nat.eq_of_mul_eq_mul_left (Nat.pow_pos (by omega)) h
    omega
  · exact heq
  · exfalso
    obtain ⟨d, rfl⟩ : ∃ d, c = j + 1 + d := ⟨c - (j + 1), by omega⟩
    rw [hm, Nat.pow_add, Nat.pow_succ, Nat.mul_assoc, Nat.mul_assoc] at h
    have := Nat.eq_of_mul_eq_mul_left (Nat.pow_pos (by omega)) h
    omega
set_option maxRecDepth 100000 in
theorem rzeros_any (x : Nat) (hx : x < 18446744073709551616) (w : World) :
    Calls Tryd.prog 20 #[.int .u64 x] w fun e w' => e = .returned (.int .i64 (Lib.ctz 64 x)) ∧ w = w' := by
  have HX := Lib.hid hx
  go_enter Tryd.func20, Tryd.ntmps20
  go_wp2_with fail
  go_loopw [0, 3] (fun y i wr => ∃ (j q : Nat), j ≤ 64 ∧ i = .int .i64 j ∧ y = .int .u64 q ∧ x = 2 ^ j * q ∧ q < 18446744073709551616 ∧ wr = w) (fun _ i _ => 64 - (intOf i).toNat)
  case atStart => exact ⟨0, x, by omega, rfl, rfl, by simp, hx, rfl⟩
  case round =>
    obtain ⟨j, q, hj, rfl, rfl, hq, hq9, rfl⟩ := hrel
    have HQ := Lib.hid hq
    clear hq hx
    by_cases hlt : j < 64
    · have hlti : (j : Int) < 64 := by omega
      by_cases h2 : q % 2 = 0
      · have hb : ((q : Int) % 2 == 0) = true := by simp; omega
        have HN := Lib.hid (show x = 2 ^ (j + 1) * (q / 2) by rw [HQ.out, Nat.pow_succ, Nat.mul_assoc]; congr 1; omega)
        have hq8 : q / 2 < 18446744073709551616 := by omega
        have HQ8 := Lib.hid hq8
        clear HQ hq8
        go_wp2_with fail
        go_roundw
        case rel => exact ⟨j + 1, q / 2, by omega, by go_num, by simp, HN.out, HQ8.out, by simp⟩
        case measure => simp [intOf]; omega
      · have hb : ((q : Int) % 2 == 0) = false := by simp; omega
        have HC := Lib.hid (ctz_of x j (q / 2) HX.out (by rw [HQ.out]; congr 1; omega))
        clear HQ
        go_wp2_with fail
        go_ret
        exact ⟨by rw [HC.out]; rfl, rfl⟩
    · obtain rfl : j = 64 := by omega
      have hx0 : x = 0 := by
        have h1 := HQ.out
        have h2 := HX.out
        rcases Nat.eq_zero_or_pos q with h0 | h0
        · rw [h1, h0]
        · exfalso
          have : 2 ^ 64 * 1 ≤ 2 ^ 64 * q := Nat.mul_le_mul_left _ h0
          omega
      have HC := Lib.hid (show Lib.ctz 64 x = 64 by rw [hx0]; rfl)
      clear hx0 HQ
      go_wp2_with fail
      go_ret
      exact ⟨by rw [HC.out]; rfl, rfl⟩
/-- A bit of a string. -/
def bitAt (bs : List Nat) (i : Int) : Nat := if 0 ≤ i ∧ i < 8 * bs.length then bs.getD (i.toNat / 8) 0 / 2 ^ (7 - i.toNat % 8) % 2 else 0
theorem i64_and7 (n : Int) : bits .and .i64 n 7 = n % 8 := by
  have h7 : (BitVec.ofInt 64 7).toNat = 2 ^ 3 - 1 := by decide
  have key : (BitVec.ofInt 64 n &&& BitVec.ofInt 64 7).toNat = (n % ((2 ^ 64 : Nat) : Int)).toNat % 2 ^ 3 := by
    rw [BitVec.toNat_and, BitVec.toNat_ofInt, h7, Nat.and_two_pow_sub_one_eq_mod]
  show IntKind.i64.wrap ((BitVec.ofInt 64 n &&& BitVec.ofInt 64 7).toNat : Nat) = n % 8
  rw [key, IntKind.wrap_i64]
  omega
theorem i64_and1 (n : Int) : bits .and .i64 n 1 = n % 2 := by
  have h7 : (BitVec.ofInt 64 1).toNat = 2 ^ 1 - 1 := by decide
  have key : (BitVec.ofInt 64 n &&& BitVec.ofInt 64 1).toNat = (n % ((2 ^ 64 : Nat) : Int)).toNat % 2 ^ 1 := by
    rw [BitVec.toNat_and, BitVec.toNat_ofInt, h7, Nat.and_two_pow_sub_one_eq_mod]
  show IntKind.i64.wrap ((BitVec.ofInt 64 n &&& BitVec.ofInt 64 1).toNat : Nat) = n % 2
  rw [key, IntKind.wrap_i64]
  omega
theorem wrap_div (x r : Nat) (h : x < 256) : wrap64 ((x : Int) / 2 ^ r) = (x : Int) / 2 ^ r := by
  have e : (x : Int) / 2 ^ r = ((x / 2 ^ r : Nat) : Int) := by rw [Int.natCast_ediv, Int.natCast_pow]; rfl
  have := Nat.div_le_self x (2 ^ r)
  rw [e, ← IntWalk.i64_left]
  generalize x / 2 ^ r = p at *
  exact IntWalk.i64_in _ (by omega)
set_option maxRecDepth 100000 in
theorem bit_any (A : Option Addr) (n c : Nat) (bs : List Nat) (i : Int) (w : World) (hb : Bys w A n bs) (hn : n ≤ 1000) (hi : -9223372036854775808 ≤ i ∧ i ≤ 9223372036854775807) :
    Calls Tryd.prog 21 #[.slice A n c, .int .i64 i] w fun e w' => e = .returned (.int .i64 (bitAt bs i : Nat)) ∧ w = w' := by
  have HB := Lib.hid hb
  have hl := hb.len
  clear hb
  by_cases h0 : i < 0
  · have HV := Lib.hid (show bitAt bs i = 0 by unfold bitAt; rw [if_neg (by omega)])
    clear hl
    go_enter Tryd.func21, Tryd.ntmps21
    go_wp2_with fail
    go_ret
    exact ⟨by rw [HV.out]; rfl, rfl⟩
  · by_cases h1 : (n : Int) ≤ i / 8
    · have HV := Lib.hid (show bitAt bs i = 0 by unfold bitAt; rw [if_neg (by omega)])
      clear hl
      go_enter Tryd.func21, Tryd.ntmps21
      go_wp2_with fail
      go_ret
      exact ⟨by rw [HV.out]; rfl, rfl⟩
    · obtain ⟨k, rfl⟩ : ∃ k : Nat, i = (k : Int) := ⟨i.toNat, by omega⟩
      have hk : k / 8 < n := by omega
      obtain ⟨b1, o1, x, rfl, _, hx1, hx9, hcx⟩ := HB.out.cell hk
      have HV := Lib.hid (show bitAt bs (k : Int) = x / 2 ^ (7 - k % 8) % 2 by
        unfold bitAt; rw [if_pos (by omega), Int.toNat_natCast, List.getD, hx1]; rfl)
      have hand := i64_and7 (k : Int)
      obtain ⟨r, hr⟩ : ∃ r, 7 - k % 8 = r := ⟨_, rfl⟩
      rw [hr] at HV
      have hr1 : (7 - (k : Int) % 8).toNat = r := by omega
      have hr2 : (0 : Int) ≤ 7 - (k : Int) % 8 := by omega
      have hk8 : ((k : Int) / 8).toNat = k / 8 := by omega
      have ha1 := i64_and1 ((x : Int) / 2 ^ r)
      have hwx := wrap_div x r hx9
      clear hl hx1 hr
      go_enter Tryd.func21, Tryd.ntmps21
      go_wp2_with fail
      go_ret
      exact ⟨by rw [HV.out]; push_cast; rfl, rfl⟩
end Go.Proofs.YthfjjphpnakgnaaDoor
