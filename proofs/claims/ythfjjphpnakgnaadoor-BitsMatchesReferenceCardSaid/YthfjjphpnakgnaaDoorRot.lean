import Derived.Test.YthfjjphpnakgnaaDoorSame
import Derived.Laws.BitsAllLaws
import Derived.Outline
import Derived.Deep.Cut
namespace Go.Proofs.YthfjjphpnakgnaaDoor
open Go.ChangeShapes Go.WideShapes Go.ChangeAt Go.RowKit
set_option linter.unusedVariables false
set_option linter.unusedSimpArgs false
/-- One bit. -/
def rot1 (w : Nat) : Nat := w * 2 % 4294967296 + w / 2147483648
def rotN (w : Nat) : Nat → Nat
  | 0 => w
  | k + 1 => rot1 (rotN w k)
theorem rot1_lt (w : Nat) (h : w < 4294967296) : rot1 w < 4294967296 := by unfold rot1; omega
theorem rotN_lt (w : Nat) (h : w < 4294967296) (k : Nat) : rotN w k < 4294967296 := by
  induction k with
  | zero => exact h
  | succ k ih => exact rot1_lt _ ih
theorem rotN_add (w a b : Nat) : rotN w (a + b) = rotN (rotN w a) b := by
  induction b with
  | zero => rfl
  | succ b ih => show rot1 (rotN w (a + b)) = rot1 _; rw [ih]
theorem rotN_val (w : Nat) (h : w < 4294967296) (k : Nat) (hk : k ≤ 32) : rotN w k = w * 2 ^ k % 4294967296 + w / 2 ^ (32 - k) := by
  induction k with
  | zero => simp [rotN]; omega
  | succ k ih =>
    have e1 := ih (by omega)
    have h32 : (4294967296 : Nat) = 2 ^ k * 2 ^ (32 - k) := by rw [← Nat.pow_add, show k + (32 - k) = 32 by omega]
    have hp : 2 ^ (32 - k) = 2 * 2 ^ (32 - (k + 1)) := by rw [show 32 - k = (32 - (k + 1)) + 1 by omega, Nat.pow_succ, Nat.mul_comm]
    have ek : 2 ^ (k + 1) = 2 * 2 ^ k := by rw [Nat.pow_succ, Nat.mul_comm]
    show rot1 _ = _
    rw [e1]
    have hP : 0 < 2 ^ k := Nat.pow_pos (by omega)
    have hQ : 0 < 2 ^ (32 - (k + 1)) := Nat.pow_pos (by omega)
    -- w = hi * (2q) + lo
    rw [ek, hp] 
    rw [hp] at h32
    generalize 2 ^ k = p at *
    generalize 2 ^ (32 - (k + 1)) = q at *
    have hlo : w * p % 4294967296 = w % (2 * q) * p := by
      rw [h32, Nat.mul_comm p, Nat.mul_mod_mul_right]
    have hlo2 : w * (2 * p) % 4294967296 = w % q * (2 * p) := by
      rw [h32, show p * (2 * q) = q * (2 * p) by rw [Nat.mul_left_comm, Nat.mul_comm p q, Nat.mul_left_comm], Nat.mul_mod_mul_right]
    have hdd : w / q / 2 = w / (2 * q) := by rw [Nat.div_div_eq_div_mul, Nat.mul_comm]
    have hmm : w % (2 * q) = w % q + q * (w / q % 2) := by rw [Nat.mul_comm 2 q, Nat.mod_mul]
    have hbnd : w / q < 2 * p := by
      rw [Nat.div_lt_iff_lt_mul hQ]
      calc w < 4294967296 := h
        _ = 2 * p * q := by rw [h32, Nat.mul_assoc, Nat.mul_left_comm]
    have hhi : w / (2 * q) < p := by omega
    have hpq : q * p = 2147483648 := by
      have : p * (2 * q) = 2 * (q * p) := by rw [Nat.mul_left_comm, Nat.mul_comm p q]
      omega
    rw [hlo, hlo2, hmm]
    unfold rot1
    have hr : w % q < q := Nat.mod_lt _ hQ
    have hr2 : w % q * p ≤ (q - 1) * p := Nat.mul_le_mul_right _ (by omega)
    have hr3 : (q - 1) * p = q * p - p := by rw [Nat.sub_mul, Nat.one_mul]
    have hm2 : w / q % 2 < 2 := Nat.mod_lt _ (by omega)
    have hw2 : w / q = 2 * (w / (2 * q)) + w / q % 2 := by omega
    have ex : (w % q + q * (w / q % 2)) * p = w % q * p + 2147483648 * (w / q % 2) := by
      rw [Nat.add_mul, Nat.mul_right_comm, hpq]
    rw [ex, show w % q * (2 * p) = 2 * (w % q * p) by rw [Nat.mul_left_comm]]
    have hple : p ≤ q * p := Nat.le_mul_of_pos_left p hQ
    generalize w % q * p = c at *
    generalize hm0 : w / q % 2 = m at *
    rcases (show m = 0 ∨ m = 1 by omega) with rfl | rfl <;> omega
theorem rotN_32 (w : Nat) (h : w < 4294967296) : rotN w 32 = w := by
  rw [rotN_val w h 32 (by omega)]; simp
theorem rot_or (w k : Nat) (h : w < 4294967296) (hk : k < 32) (hk0 : 0 < k) : (w * 2 ^ k % 4294967296) ||| (w / 2 ^ (32 - k)) = rotN w k := by
  rw [rotN_val w h k (by omega)]
  have hlt : w / 2 ^ (32 - k) < 2 ^ k := by
    rw [Nat.div_lt_iff_lt_mul (Nat.pow_pos (by omega)), ← Nat.pow_add, show k + (32 - k) = 32 by omega]; exact h
  have h32 : (4294967296 : Nat) = 2 ^ (32 - k) * 2 ^ k := by rw [← Nat.pow_add, show (32 - k) + k = 32 by omega]
  have e : w * 2 ^ k % 4294967296 = (w % 2 ^ (32 - k)) * 2 ^ k := by rw [h32, Nat.mul_mod_mul_right]
  rw [e]
  have := Nat.shiftLeft_add_eq_or_of_lt hlt (w % 2 ^ (32 - k))
  rw [Nat.shiftLeft_eq] at this
  exact this.symm

theorem i64_and31 (n : Int) : bits .and .i64 n 31 = n % 32 := by
  have e1 : BitVec.ofInt 64 (31 : Int) = 31#64 := by decide
  have e2 : (BitVec.ofInt 64 n &&& 31#64).toNat = (n % 32).toNat := by
    rw [BitVec.toNat_and, BitVec.toNat_ofInt, show (31#64).toNat = 2 ^ 5 - 1 from rfl, Nat.and_two_pow_sub_one_eq_mod]
    omega
  show IntKind.i64.wrap (((BitVec.ofInt 64 n &&& BitVec.ofInt 64 (31 : Int)).toNat : Nat) : Int) = _
  rw [e1, e2, IntWalk.i64_in _ (by omega)]
  omega
def kOf (n : Int) : Nat := (n % 32).toNat
theorem kOf_lt (n : Int) : kOf n < 32 := by unfold kOf; omega
set_option maxRecDepth 100000 in
theorem rot_any (x : Nat) (n : Int) (w : World) (hx : x < 4294967296) :
    Calls Tryd.prog 14 #[.int .u32 (x : Nat), .int .i64 n] w fun e w' => e = .returned (.int .u32 ((rotN x (kOf n) : Nat) : Int)) ∧ w = w' := by
  have hk := kOf_lt n
  have ha : bits .and .i64 n 31 = (kOf n : Int) := by rw [i64_and31]; unfold kOf; omega
  have hu : IntKind.u64.wrap (kOf n : Int) = (kOf n : Int) := IntWalk.u64_in _ (by omega)
  by_cases h0 : kOf n = 0
  · rw [h0] at ha ⊢
    have hor := u32_or_nat x x hx hx
    rw [Nat.or_self] at hor
    have h31 : bits .and .u64 32 31 = 0 := by decide
    have hxm : (x : Int) % 4294967296 = (x : Int) := by omega
    go_enter Tryd.func14, Tryd.ntmps14
    go_wp2_with fail
    go_ret
    exact ⟨rfl, rfl⟩
  · obtain ⟨k, hk'⟩ : ∃ k, kOf n = k := ⟨_, rfl⟩
    rw [hk'] at hk ha hu h0 ⊢
    have hor := rot_or x k hx hk (by omega)
    have hs : bits .and .u64 (32 - (k : Int)) 31 = ((32 - k : Nat) : Int) := by
      have := u64_and_nat (32 - k) 31 (by omega) (by omega)
      rw [show (31 : Nat) = 2 ^ 5 - 1 from rfl, Nat.and_two_pow_sub_one_eq_mod, Nat.mod_eq_of_lt (by omega)] at this
      rw [← this]; congr 1; omega
    have hlt1 : x * 2 ^ k % 4294967296 < 4294967296 := Nat.mod_lt _ (by omega)
    have hlt2 : x / 2 ^ (32 - k) < 4294967296 := Nat.lt_of_le_of_lt (Nat.div_le_self _ _) hx
    have hor2 : bits .or .u32 ((x : Int) * 2 ^ k % 4294967296) ((x : Int) / 2 ^ (32 - k)) = ((rotN x k : Nat) : Int) := by
      rw [← hor, ← u32_or_nat _ _ hlt1 hlt2, Int.natCast_emod, Int.natCast_mul, Int.natCast_pow, Int.natCast_ediv, Int.natCast_pow]; rfl
    obtain ⟨r, hr⟩ : ∃ r, 32 - k = r := ⟨_, rfl⟩
    rw [hr] at hor2 hs
    have hs0 : (0 : Int) ≤ 32 - (k : Int) := by omega
    obtain ⟨z, hz⟩ : ∃ z, rotN x k = z := ⟨_, rfl⟩
    rw [hz] at hor2 ⊢
    have hw : IntKind.u64.wrap (32 - (k : Int)) = 32 - (k : Int) := IntWalk.u64_in _ (by omega)
    clear hor hlt1 hlt2 hk' hz
    go_enter Tryd.func14, Tryd.ntmps14
    go_wp2_with fail
    go_ret
    exact ⟨rfl, rfl⟩
set_option maxRecDepth 100000 in
theorem rrot_any (x : Nat) (n : Int) (w : World) (hx : x < 4294967296) (hn : -9223372036854775808 ≤ n ∧ n ≤ 9223372036854775807) :
    Calls Tryd.prog 15 #[.int .u32 (x : Nat), .int .i64 n] w fun e w' => e = .returned (.int .u32 ((rotN x (kOf n) : Nat) : Int)) ∧ w = w' := by
  have hk := kOf_lt n
  have hm : n.tmod 32 = n % 32 ∨ (n.tmod 32 < 0 ∧ n.tmod 32 + 32 = n % 32) := by
    by_cases h : 0 ≤ n
    · exact .inl (Int.tmod_eq_emod_of_nonneg h)
    · have e : n.tmod 32 = -((-n) % 32) := by
        rw [← Int.tmod_eq_emod_of_nonneg (a := -n) (by omega), Int.neg_tmod, Int.neg_neg]
      rw [e]; omega
  obtain ⟨k, hk'⟩ : ∃ k, kOf n = k := ⟨_, rfl⟩
  have hk2 : n % 32 = (k : Int) := by rw [← hk']; unfold kOf; omega
  rw [hk2] at hm
  rw [hk'] at hk ⊢
  obtain ⟨r, hr⟩ : ∃ r, n.tmod 32 = r := ⟨_, rfl⟩
  rw [hr] at hm
  have hb : -32 ≤ r ∧ r < 32 := by
    clear hr hk2 hn
    rcases hm with hm | ⟨h1, h2⟩
    · subst hm; omega
    · omega
  have hw : IntKind.i64.wrap r = r := IntWalk.i64_in _ (by omega)
  have hw2 : IntKind.i64.wrap (r + 32) = r + 32 := IntWalk.i64_in _ (by omega)
  clear hk'
  rcases hm with rfl | ⟨hneg, hm⟩
  · go_enter Tryd.func15, Tryd.ntmps15
    go_wp2_with fail
    go_loopw [0, 6] (fun y i wr => ∃ (j : Nat), j ≤ k ∧ i = .int .i64 j ∧ y = .int .u32 ((rotN x j : Nat) : Int) ∧ wr = w) (fun _ i _ => k - (intOf i).toNat)
    case atStart => exact ⟨0, by omega, rfl, rfl, rfl⟩
    case round =>
      obtain ⟨j, hj, rfl, rfl, rfl⟩ := hrel
      by_cases hlt : j < k
      · have hn1 : rotN x (j + 1) = rot1 (rotN x j) := rfl
        have hq := rotN_lt x hx j
        obtain ⟨a, ha⟩ : ∃ a, rotN x j = a := ⟨_, rfl⟩
        rw [ha] at hn1 hq ⊢
        have HN := Lib.hid hn1
        clear ha hn1
        go_wp2_with fail
        go_roundw
        case rel => exact ⟨j + 1, by omega, by go_num, by rw [HN.out]; unfold rot1; congr 1, by simp⟩
        case measure => simp [intOf]; omega
      · obtain rfl : j = k := by omega
        go_wp2_with fail
        go_ret
        exact ⟨rfl, rfl⟩
  · go_enter Tryd.func15, Tryd.ntmps15
    go_wp2_with fail
    go_loopw [0, 6] (fun y i wr => ∃ (j : Nat), j ≤ k ∧ i = .int .i64 j ∧ y = .int .u32 ((rotN x j : Nat) : Int) ∧ wr = w) (fun _ i _ => k - (intOf i).toNat)
    case atStart => exact ⟨0, by omega, rfl, rfl, rfl⟩
    case round =>
      obtain ⟨j, hj, rfl, rfl, rfl⟩ := hrel
      by_cases hlt : j < k
      · have hn1 : rotN x (j + 1) = rot1 (rotN x j) := rfl
        have hq := rotN_lt x hx j
        obtain ⟨a, ha⟩ : ∃ a, rotN x j = a := ⟨_, rfl⟩
        rw [ha] at hn1 hq ⊢
        have HN := Lib.hid hn1
        clear ha hn1
        go_wp2_with fail
        go_roundw
        case rel => exact ⟨j + 1, by omega, by go_num, by rw [HN.out]; unfold rot1; congr 1, by simp⟩
        case measure => simp [intOf]; omega
      · obtain rfl : j = k := by omega
        go_wp2_with fail
        go_ret
        exact ⟨rfl, rfl⟩
end Go.Proofs.YthfjjphpnakgnaaDoor
