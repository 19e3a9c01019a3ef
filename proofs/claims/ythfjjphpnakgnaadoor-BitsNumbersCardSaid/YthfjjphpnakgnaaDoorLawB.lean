import Derived.Test.YthfjjphpnakgnaaDoorAwk
import Derived.BigQuiet
namespace Go.Proofs.YthfjjphpnakgnaaDoor
open Go.ChangeShapes Go.WideShapes Go.ChangeAt Go.RowKit Go.Sort
set_option linter.unusedVariables false
set_option linter.unusedSimpArgs false
theorem bytes_at (x : Nat) (n : Int) (m : Nat) (l : List Nat) (w : World) (hx : x < 18446744073709551616) (hm : mOf n = m) (hl : byL x m = l) :
    Calls Tryd.prog 12 #[.int .u64 (x : Nat), .int .i64 n] w fun e w' => (∃ A, e = .returned (.slice A m m) ∧ Bys w' A m l) ∧ Below w.heap.size w w' := by
  have := bytes_any x n w hx
  rwa [hm, hl] at this
theorem rbytes_at (x : Nat) (n : Int) (m : Nat) (l : List Nat) (w : World) (hx : x < 18446744073709551616) (hm : mOf n = m) (hl : byL x m = l) :
    Calls Tryd.prog 13 #[.int .u64 (x : Nat), .int .i64 n] w fun e w' => (∃ A c, e = .returned (.slice A m c) ∧ Bys w' A m l) ∧ Below w.heap.size w w' := by
  have := rbytes_any x n w hx
  rwa [hm, hl] at this
theorem Bys.regrown {w : World} {A : Option Addr} {n : Nat} {bs : List Nat} (h : Bys w A n bs) (d : Nat) (os : Array Obj) : Bys (grow (redrawn w d) os) A n bs := h.below (below_regrown w d os)
theorem num_at (A : Option Addr) (n c : Nat) (bs : List Nat) (z : Nat) (w : World) (hb : Bys w A n bs) (hn : n ≤ 8) (hnc : n ≤ c) (hcm : c ≤ maxLen) (hz : num bs = z) :
    Calls Tryd.prog 9 #[.slice A n c] w fun e w' => e = .returned (.int .u64 (z : Nat)) ∧ Below w.heap.size w w' := by
  have := num_any A n c bs w hb (by unfold maxLen; omega) hnc hcm
  rw [show last8 bs = bs by unfold last8; rw [show bs.length - 8 = 0 by rw [hb.len]; omega]; rfl, hz] at this
  exact pureB this
theorem pow_facts (x z r : Nat) (hx : x < 18446744073709551616) (hz : z = x % 2 ^ r) (h : 2 ^ r ≤ 2 ^ 56) : ∃ p : Nat, 0 < p ∧ p ≤ 72057594037927936 ∧ IntKind.u64.wrap ((2 : Int) ^ r) = (p : Int) ∧ ((p : Int) == 0) = false ∧ (x : Int).tmod (p : Int) = (z : Int) ∧ IntKind.u64.wrap (z : Int) = (z : Int) ∧ (x : Int) % (p : Int) = (z : Int) := by
  have e : (2 : Int) ^ r = ((2 ^ r : Nat) : Int) := by rw [Int.natCast_pow]; rfl
  have hp : 0 < 2 ^ r := Nat.pow_pos (by omega)
  have h9 := Nat.mod_le x (2 ^ r)
  rw [e]
  generalize 2 ^ r = p at *
  refine ⟨p, hp, by omega, IntWalk.u64_in _ (by omega), by simp; omega, by rw [hz]; exact (Int.ofNat_tmod _ _).symm, IntWalk.u64_in _ (by omega), by rw [hz]; exact (Int.natCast_emod _ _).symm⟩
set_option maxRecDepth 100000 in
set_option maxHeartbeats 400000 in
theorem numbers_any (x : Nat) (n : Int) (w : World) (hT : Tab w) (hx : x < 18446744073709551616) :
    Calls Tryd.prog 4 #[.int .u64 (x : Nat), .int .i64 n] w fun e w' => e = .returned (.bool true) ∧ Below w.heap.size w w' := by
  have hm8 := mOf_le n
  obtain ⟨m, hm⟩ : ∃ m, mOf n = m := ⟨_, rfl⟩
  rw [hm] at hm8
  have hnum := num_byL x m
  obtain ⟨l, hl⟩ : ∃ l, byL x m = l := ⟨_, rfl⟩
  rw [hl] at hnum
  have B1 := Lib.hid (bytes_at x n m l · hx hm hl)
  have B2 := Lib.hid (rbytes_at x n m l · hx hm hl)
  have HD := Lib.hid (show decide (l = l) = true by simp)
  have HT := Lib.hid hT
  clear hT hm hl
  by_cases h8 : m = 8
  · subst h8
    have hz : num l = x := by rw [hnum]; exact Nat.mod_eq_of_lt hx
    have HZ := Lib.hid hz
    have hbx : ((x : Int) == (x : Int)) = true := by simp
    clear hnum hz
    go_enter Tryd.func4, Tryd.ntmps4
    go_wp2_with fail
    refine (awake_any _ HT.out).mono ?_
    rintro e w1 ⟨rfl, hb⟩
    have HE1 := Lib.hid hb
    clear hb HT
    go_wp2_with fail
    refine (B1.out _).mono ?_
    rintro e w2 ⟨⟨A2, rfl, hy⟩, hb⟩
    have HE2 := Lib.hid (HE1.out.trans (hb.mono HE1.out.size))
    have HY2 := Lib.hid hy
    clear hb HE1 hy
    go_wp2_with fail
    refine (B2.out _).mono ?_
    rintro e w3 ⟨⟨A3, c3, rfl, hy⟩, hb⟩
    have HE3 := Lib.hid (HE2.out.trans (hb.mono HE2.out.size))
    have HY3 := Lib.hid hy
    have HY2' := Lib.hid (HY2.out.below hb)
    clear hb HE2 hy HY2
    go_wp2_with fail
    refine (same_below A2 A3 8 8 8 c3 l l _ HY2'.out HY3.out (by decide) (by decide)).mono ?_
    rintro e w4 ⟨rfl, hb⟩
    have HE4 := Lib.hid (HE3.out.trans (hb.mono HE3.out.size))
    have HY4 := Lib.hid (HY2'.out.below hb)
    clear hb HE3 HY3 HY2'
    go_wp2_with fail
    refine wp_region_quiet_below (by kernel_rfl) (by kernel_rfl) ?_
    repeat (first
      | go_big_quiet_skip
      | quiet_step ((go_at_call 9; with_reducible exact Calls.regrown_of (num_at A2 8 8 l x _ (Bys.regrown HY4.out _ _) (Nat.le_refl _) (Nat.le_refl _) (by decide) HZ.out))))
    refine wpQuiet_nil ?_
    rintro _ ⟨⟨dq, osq⟩, rfl⟩
    go_wp2_with fail
    go_ret
    exact ⟨ret_true (by simp), HE4.out.trans ((below_regrown w4 dq osq).mono HE4.out.size)⟩
  · have hm7 : m < 8 := by omega
    have hmi : (m : Int) < 8 := by omega
    have hb8 : ((m : Int) == 8) = false := by simp; omega
    have hmc : (8 * (m : Int)).toNat = 8 * m := by omega
    obtain ⟨z, hz⟩ : ∃ z, num l = z := ⟨_, rfl⟩
    have HZ := Lib.hid hz
    rw [hz] at hnum
    have hpow : (256 : Nat) ^ m = 2 ^ (8 * m) := by rw [show (256 : Nat) = 2 ^ 8 from rfl, ← Nat.pow_mul]
    rw [hpow] at hnum
    have hP := Nat.pow_le_pow_right (n := 2) (by omega) (show 8 * m ≤ 56 by omega)
    obtain ⟨r, hr⟩ : ∃ r, 8 * m = r := ⟨_, rfl⟩
    rw [hr] at hnum hP
    have hw1 : IntKind.i64.wrap (8 * (m : Int)) = (r : Int) := by rw [← hr, IntWalk.i64_in _ (by omega)]; push_cast; rfl
    have hw2 : IntKind.u64.wrap (r : Int) = (r : Int) := IntWalk.u64_in _ (by omega)
    have hw3 : min r 64 = r := by omega
    obtain ⟨p, hp0, hp9, hw4, hw5, hw6, hw7, hw8⟩ := pow_facts x z r hx hnum hP
    have hpn : ¬ p = 0 := by omega
    have hpn2 : ¬ (p : Int) = 0 := by omega
    clear hz hnum hpow hmc hr hP
    go_enter Tryd.func4, Tryd.ntmps4
    go_wp2_with fail
    refine (awake_any _ HT.out).mono ?_
    rintro e w1 ⟨rfl, hb⟩
    have HE1 := Lib.hid hb
    clear hb HT
    go_wp2_with fail
    refine (B1.out _).mono ?_
    rintro e w2 ⟨⟨A2, rfl, hy⟩, hb⟩
    have HE2 := Lib.hid (HE1.out.trans (hb.mono HE1.out.size))
    have HY2 := Lib.hid hy
    clear hb HE1 hy
    go_wp2_with fail
    refine (B2.out _).mono ?_
    rintro e w3 ⟨⟨A3, c3, rfl, hy⟩, hb⟩
    have HE3 := Lib.hid (HE2.out.trans (hb.mono HE2.out.size))
    have HY3 := Lib.hid hy
    have HY2' := Lib.hid (HY2.out.below hb)
    clear hb HE2 hy HY2
    go_wp2_with fail
    refine (same_below A2 A3 m m m c3 l l _ HY2'.out HY3.out (by unfold maxLen; omega) (by unfold maxLen; omega)).mono ?_
    rintro e w4 ⟨rfl, hb⟩
    have HE4 := Lib.hid (HE3.out.trans (hb.mono HE3.out.size))
    have HY4 := Lib.hid (HY2'.out.below hb)
    have HM := Lib.hid (show m ≤ maxLen by unfold maxLen; omega)
    clear hb HE3 HY3 HY2'
    go_wp2_with fail
    refine wp_region_quiet_below (by kernel_rfl) (by kernel_rfl) ?_
    repeat (first
      | go_big_quiet_skip
      | quiet_step ((go_at_call 9; with_reducible exact Calls.regrown_of (num_at A2 m m l z _ (Bys.regrown HY4.out _ _) hm8 (Nat.le_refl _) HM.out HZ.out))))
    refine wpQuiet_nil ?_
    rintro _ ⟨⟨dq, osq⟩, rfl⟩
    go_wp2_with fail
    go_ret
    exact ⟨ret_true (by simp), HE4.out.trans ((below_regrown w4 dq osq).mono HE4.out.size)⟩
end Go.Proofs.YthfjjphpnakgnaaDoor
