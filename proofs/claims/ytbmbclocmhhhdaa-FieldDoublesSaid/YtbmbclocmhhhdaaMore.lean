import Derived.Test.YtbmbclocmhhhdaaWalks
import Derived.Deep.RegionHeld3
namespace Go.Proofs.Ytbmbclocmhhhdaa
open Go.ChangeShapes Go.WideShapes Go.ChangeAt Go.RowKit
set_option linter.unusedVariables false
set_option linter.unusedSimpArgs false
/-- The sum of bytes. -/
def xs (r : Nat) : List Nat → Nat
  | [] => r
  | x :: l => xs (r ^^^ x) l
theorem xs_snoc (l : List Nat) : ∀ r x, xs r (l ++ [x]) = xs r l ^^^ x := by
  induction l with
  | nil => intro r x; rfl
  | cons y l ih => intro r x; exact ih _ _
theorem xs_lt (l : List Nat) : ∀ r, r < 256 → (∀ x ∈ l, x < 256) → xs r l < 256 := by
  induction l with
  | nil => intro r h _; exact h
  | cons y l ih => intro r h hl; exact ih _ (xor_lt h (hl y (by simp))) (fun x hx => hl x (by simp [hx]))
theorem xs_take {l : List Nat} {k x : Nat} (h : l[k]? = some x) (r : Nat) : xs r (l.take (k + 1)) = xs r (l.take k) ^^^ x := by
  rw [List.take_add_one, h]; exact xs_snoc _ _ _
theorem take_lt {l : List Nat} (h : ∀ x ∈ l, x < 256) (k : Nat) : ∀ x ∈ l.take k, x < 256 := fun x hx => h x (List.mem_of_mem_take hx)
set_option maxHeartbeats 1000000 in
theorem sum_any (A : Option Addr) (n c : Nat) (bs : List Nat) (w : World) (h : Bys w A n bs) (hn : n ≤ 9223372036854775807) : Calls Try.prog 17 #[.slice A n c] w fun e w' => e = .returned (.int .u8 (xs 0 bs)) ∧ w = w' := by
  have H := Lib.hid h
  have hl := h.len
  have HL := Lib.hid hl
  clear h hl
  go_enter Try.func17, Try.ntmps17
  go_wp2_with fail
  go_loop [3, 8] (fun x i => ∃ k r : Nat, k ≤ n ∧ i = .int .i64 k ∧ r < 256 ∧ r = xs 0 (bs.take k) ∧ x = .int .u8 r) (fun _ i => n - (intOf i).toNat)
  case atStart => exact ⟨0, 0, by omega, rfl, by omega, rfl, rfl⟩
  case round =>
    obtain ⟨k, r, hk, rfl, hr, hx, rfl⟩ := hrel
    have HX := Lib.hid hx
    clear hx
    by_cases hlt : k < n
    · obtain ⟨b, o, x, rfl, hb, hxk, hx256, hc⟩ := H.out.cell hlt
      have e2 := u8_xor_nat r x hr hx256
      have HK := Lib.hid hxk
      clear hxk
      go_wp2_with fail
      go_round
      case rel => exact ⟨k + 1, r ^^^ x, by omega, by go_num, xor_lt hr hx256, by rw [xs_take HK.out, ← HX.out], rfl⟩
      case measure => simp [intOf]; omega
    · obtain rfl : k = n := by omega
      go_wp2_with fail
      go_ret
      exact ⟨ret_int (by rw [HX.out, List.take_of_length_le (by rw [HL.out]; omega)]), rfl⟩
theorem Bys.drew {w : World} {A : Option Addr} {n : Nat} {bs : List Nat} (h : Bys w A n bs) : Bys w.drew A n bs := ⟨Reads.drew h.1, h.2⟩
theorem Bys.lit4 (w : World) (g a b c d t : Nat) (hg : g = w.heap.size) (h : a < 256 ∧ b < 256 ∧ c < 256 ∧ d < 256) : Bys (w.alloc (.cells #[.int .u8 (a : Nat), .int .u8 (b : Nat), .int .u8 (c : Nat), .int .u8 (d : Nat)] t)) (some ⟨g, 0, none⟩) 4 [a, b, c, d] := by
  subst hg
  refine ⟨⟨rfl, fun _ => ⟨⟨w.heap.size, 0, none⟩, rfl, by simp, fun j u hu => ?_⟩⟩, by simp; omega⟩
  rw [add_none, Blk.cell (Blk.new w t _)]
  simpa using hu
set_option maxHeartbeats 1000000 in
theorem dot_any (a0 a1 a2 a3 b0 b1 b2 b3 : Nat) (w : World) (h0 : a0 < 256) (h1 : a1 < 256) (h2 : a2 < 256) (h3 : a3 < 256) (k0 : b0 < 256) (k1 : b1 < 256) (k2 : b2 < 256) (k3 : b3 < 256) :
    Calls Try.prog 18 #[.agg #[.int .u8 a0, .int .u8 a1, .int .u8 a2, .int .u8 a3], .agg #[.int .u8 b0, .int .u8 b1, .int .u8 b2, .int .u8 b3]] w fun e w' => e = .returned (.int .u8 (xs 0 [gm a0 b0, gm a1 b1, gm a2 b2, gm a3 b3])) ∧ Below w.heap.size w w' := by
  go_enter Try.func18, Try.ntmps18
  go_wp2_with fail
  refine region_tail 20 (by kernel_rfl) (by kernel_rfl) ?_
  simp only [List.take_succ_cons, List.take_zero, List.drop_succ_cons, List.drop_zero]
  iterate 4 still_step
  still_call (back (mul_any a0 b0 _ h0 k0))
  iterate 4 still_step
  still_call (back (mul_any a1 b1 _ h1 k1))
  iterate 4 still_step
  still_call (back (mul_any a2 b2 _ h2 k2))
  iterate 4 still_step
  still_call (back (mul_any a3 b3 _ h3 k3))
  refine wpStill_nil ?_
  go_wp2_with fail
  refine (sum_any _ _ _ [gm a0 b0, gm a1 b1, gm a2 b2, gm a3 b3] _ (Bys.drew (Bys.lit4 _ _ _ _ _ _ _ ?hg ⟨gm_lt _ _ h0, gm_lt _ _ h1, gm_lt _ _ h2, gm_lt _ _ h3⟩)) (by omega)).mono ?_
  case hg => simp only [World.size_alloc]
  rintro e w1 ⟨rfl, rfl⟩
  go_wp2_with fail
  go_ret
  exact ⟨rfl, by repeat' (first | (with_reducible exact Below.refl _ _) | (with_reducible refine Below.drew ?_) | (with_reducible refine Below.alloc ?_ ?_ _) | go_size)⟩

theorem dot_swap (a0 a1 a2 a3 b0 b1 b2 b3 : Nat) (w : World) (h0 : a0 < 256) (h1 : a1 < 256) (h2 : a2 < 256) (h3 : a3 < 256) (k0 : b0 < 256) (k1 : b1 < 256) (k2 : b2 < 256) (k3 : b3 < 256) :
    Calls Try.prog 18 #[.agg #[.int .u8 b0, .int .u8 b1, .int .u8 b2, .int .u8 b3], .agg #[.int .u8 a0, .int .u8 a1, .int .u8 a2, .int .u8 a3]] w fun e w' => e = .returned (.int .u8 (xs 0 [gm a0 b0, gm a1 b1, gm a2 b2, gm a3 b3])) ∧ Below w.heap.size w w' := by
  have h := dot_any b0 b1 b2 b3 a0 a1 a2 a3 w k0 k1 k2 k3 h0 h1 h2 h3
  rw [gm_comm b0 a0 k0 h0, gm_comm b1 a1 k1 h1, gm_comm b2 a2 k2 h2, gm_comm b3 a3 k3 h3] at h
  exact h
theorem aw1 (w : World) : Calls Try.prog 9 #[.int .u8 87, .int .u8 131] w fun e w' => e = .returned (.int .u8 193) ∧ w = w' := by
  have h := mul_any 87 131 w (by omega) (by omega)
  rw [show gm 87 131 = 193 by decide +kernel] at h
  exact h
theorem aw2 (w : World) : Calls Try.prog 12 #[.int .u8 83] w fun e w' => e = .returned (.int .u8 202) ∧ w = w' := by
  have h := inverse_any 83 w (by omega)
  rw [← inv_of 83 202 (by omega) (by omega) (by decide +kernel)] at h
  exact h
theorem aw3 (w : World) : Calls Try.prog 12 #[.int .u8 0] w fun e w' => e = .returned (.int .u8 0) ∧ w = w' := by
  have h := inverse_any 0 w (by omega)
  rw [inv_zero] at h
  exact h
theorem aw4 (w : World) : Calls Try.prog 11 #[.int .u8 128] w fun e w' => e = .returned (.int .u8 27) ∧ w = w' := by
  have h := double_any 128 w (by omega)
  rw [show dbl 128 = 27 by decide +kernel] at h
  exact h
theorem aw5 (w : World) : Calls Try.prog 14 #[.int .u8 0, .int .i64 0] w fun e w' => e = .returned (.int .u8 1) ∧ w = w' := power_any 0 0 w (by omega) (by omega)
theorem aw7 (w : World) : Calls Try.prog 18 #[.agg #[.int .u8 1, .int .u8 2, .int .u8 0, .int .u8 0], .agg #[.int .u8 3, .int .u8 1, .int .u8 0, .int .u8 0]] w fun e w' => e = .returned (.int .u8 1) ∧ Below w.heap.size w w' := by
  have h := dot_any 1 2 0 0 3 1 0 0 w (by omega) (by omega) (by omega) (by omega) (by omega) (by omega) (by omega) (by omega)
  rw [show xs 0 [gm 1 3, gm 2 1, gm 0 0, gm 0 0] = 1 by decide +kernel] at h
  exact h
theorem aw6 (w : World) (g t : Nat) (hg : g = w.heap.size) : Calls Try.prog 17 #[.slice (some ⟨g, 0, none⟩) 3 3] (w.alloc (.cells #[.int .u8 1, .int .u8 2, .int .u8 4] t)) fun e w' => e = .returned (.int .u8 7) ∧ (w.alloc (.cells #[.int .u8 1, .int .u8 2, .int .u8 4] t)) = w' := by
  subst hg
  have h := sum_any (some ⟨w.heap.size, 0, none⟩) 3 3 [1, 2, 4] (w.alloc (.cells #[.int .u8 1, .int .u8 2, .int .u8 4] t)) ⟨⟨rfl, fun _ => ⟨⟨w.heap.size, 0, none⟩, rfl, by simp, fun j u hu => by
    rw [add_none, Blk.cell (Blk.new w t _)]
    simpa using hu⟩⟩, by simp⟩ (by omega)
  rw [show xs 0 [1, 2, 4] = 7 by decide +kernel] at h
  exact h
set_option maxHeartbeats 1000000 in
theorem awake_any (w : World) : Calls Try.prog 8 #[] w fun e w' => e = .returned (.bool true) ∧ Below w.heap.size w w' := by
  go_enter Try.func8, Try.ntmps8
  go_wp2_with (first | (go_at_call 9; refine (aw1 _).mono ?_; rintro e w1 ⟨rfl, rfl⟩) | (go_at_call 12; ((with_reducible refine (aw2 _).mono ?_); rintro e w1 ⟨rfl, rfl⟩)) | (go_at_call 12; ((with_reducible refine (aw3 _).mono ?_); rintro e w1 ⟨rfl, rfl⟩)) | (go_at_call 11; refine (aw4 _).mono ?_; rintro e w1 ⟨rfl, rfl⟩) | (go_at_call 14; refine (aw5 _).mono ?_; rintro e w1 ⟨rfl, rfl⟩) | (go_at_call 17; refine (aw6 _ _ _ (by first | rfl | simp)).mono ?_; rintro e w1 ⟨rfl, rfl⟩) | (go_at_call 18; refine (aw7 _).mono ?_; rintro e w1 ⟨rfl, hb⟩))
  go_ret
  exact ⟨rfl, ((Below.refl _ _).alloc (Nat.le_refl _) _).trans (hb.mono (by simp))⟩
theorem rmul_gm (a b : Nat) (w : World) (ha : a < 256) (hb : b < 256) : Calls Try.prog 10 #[.int .u8 a, .int .u8 b] w fun e w' => e = .returned (.int .u8 (gm a b)) ∧ Below w.heap.size w w' := by
  have h := rmul_any a b w ha hb
  rw [rm_gm a b ha hb] at h
  exact h
theorem rmul_2 (a : Nat) (w : World) (ha : a < 256) : Calls Try.prog 10 #[.int .u8 a, .int .u8 2] w fun e w' => e = .returned (.int .u8 (dbl a)) ∧ Below w.heap.size w w' := by
  have h := rmul_gm a 2 w ha (by omega)
  rw [← dbl_gm a] at h
  exact h
set_option maxHeartbeats 1000000 in
theorem lmatches_any (a b : Nat) (w : World) (ha : a < 256) (hb : b < 256) : Calls Try.prog 3 #[.int .u8 a, .int .u8 b] w fun e w' => e = .returned (.bool true) ∧ Below w.heap.size w w' := by
  go_enter Try.func3, Try.ntmps3
  go_wp2_with (first | (go_at_call 8; refine (awake_any _).mono ?_; rintro e w1 ⟨rfl, hb1⟩) | (go_at_call 9; refine (mul_any a b _ ha hb).mono ?_; rintro e w2 ⟨rfl, rfl⟩) | (go_at_call 10; ((with_reducible refine (rmul_gm a b _ ha hb).mono ?_); rintro e w2 ⟨rfl, hb2⟩)) | (go_at_call 11; refine (double_any a _ ha).mono ?_; rintro e w3 ⟨rfl, rfl⟩) | (go_at_call 10; ((with_reducible refine (rmul_2 a _ ha).mono ?_); rintro e w3 ⟨rfl, hb3⟩)) | (go_at_call 12; refine (inverse_any a _ ha).mono ?_; rintro e w4 ⟨rfl, rfl⟩) | (go_at_call 13; refine (rinverse_any a _ ha).mono ?_; rintro e w4 ⟨rfl, hb4⟩))
  go_ret
  have s1 := hb1.size
  have s2 := hb2.size
  have s3 := hb3.size
  exact ⟨ret_true (by simp), ((hb1.trans (hb2.mono (by omega))).trans (hb3.mono (by omega))).trans (hb4.mono (by omega))⟩
set_option maxHeartbeats 2000000 in
theorem llaws_any (a b c : Nat) (w : World) (ha : a < 256) (hb : b < 256) (hc : c < 256) : Calls Try.prog 4 #[.int .u8 a, .int .u8 b, .int .u8 c] w fun e w' => e = .returned (.bool true) ∧ Below w.heap.size w w' := by
  have e1 := u8_xor_nat b c hb hc
  have e2 := u8_xor_nat (gm a b) (gm a c) (gm_lt a b ha) (gm_lt a c ha)
  have hbc := xor_lt hb hc
  have q1 := gm_comm b a hb ha
  have q2 := gm_assoc a b c ha hb hc
  have q3 := gm_xor a b c
  have l1 := gm_lt a b ha
  have l2 := gm_lt b c hb
  have l3 := inv_lt a ha
  rcases Nat.eq_zero_or_pos a with h0 | h0
  · have H0 := Lib.hid h0
    have z : ((a : Int) == 0) = true := by simp [h0]
    clear h0
    go_enter Try.func4, Try.ntmps4
    go_wp2_with (first | (go_at_call 8; refine (awake_any _).mono ?_; rintro e w1 ⟨rfl, hb1⟩) | (go_at_call 9; refine (mul_any _ _ _ (by assumption) (by assumption)).mono ?_; rintro e w2 ⟨rfl, rfl⟩))
    go_ret
    exact ⟨rfl, hb1⟩
  · have z : ((a : Int) == 0) = false := by simp; omega
    have p1 := gm_inv a ha (by omega)
    have p2 := inv_inv a ha (by omega)
    have p3 := pw_255 a ha (by omega)
    have P3 : ∀ w, Calls Try.prog 14 #[.int .u8 a, .int .i64 255] w fun e w' => e = .returned (.int .u8 1) ∧ w = w' := fun w => by
      have := power_any a 255 w ha (by omega)
      rw [p3] at this
      exact this
    have HP3 := Lib.hid P3
    clear p3 P3
    go_enter Try.func4, Try.ntmps4
    go_wp2_with (first | (go_at_call 8; refine (awake_any _).mono ?_; rintro e w1 ⟨rfl, hb1⟩) | (go_at_call 9; refine (mul_any _ _ _ (by assumption) (by assumption)).mono ?_; rintro e w2 ⟨rfl, rfl⟩) | (go_at_call 12; refine (inverse_any _ _ (by assumption)).mono ?_; rintro e w2 ⟨rfl, rfl⟩) | (go_at_call 14; refine (HP3.out _).mono ?_; rintro e w2 ⟨rfl, rfl⟩))
    go_ret
    exact ⟨rfl, hb1⟩

theorem power_sum (a n m : Nat) (w : World) (ha : a < 256) (hn : n ≤ 255) (hm : m ≤ 255) : Calls Try.prog 14 #[.int .u8 a, .int .i64 ((n : Int) + (m : Int))] w fun e w' => e = .returned (.int .u8 (gm (pw a n) (pw a m))) ∧ w = w' := by
  have := power_any a (n + m) w ha (by omega)
  rw [pw_add a n m ha, Int.natCast_add] at this
  exact this
set_option maxHeartbeats 2000000 in
theorem lpowers_any (a n m : Nat) (w : World) (ha : a < 256) (hn : n ≤ 255) (hm : m ≤ 255) : Calls Try.prog 5 #[.int .u8 a, .int .u8 n, .int .u8 m] w fun e w' => e = .returned (.bool true) ∧ Below w.heap.size w w' := by
  have l1 := pw_lt a n ha
  have l2 := pw_lt a m ha
  have l3 := inv_lt a ha
  rcases Nat.eq_zero_or_pos n with h0 | h0
  · have z : ((n : Int) == 0) = true := by simp [h0]
    have H0 := Lib.hid h0
    clear h0
    go_enter Try.func5, Try.ntmps5
    go_wp2_with (first | (go_at_call 8; refine (awake_any _).mono ?_; rintro e w1 ⟨rfl, hb1⟩) | (go_at_call 9; refine (mul_any _ _ _ (by assumption) (by assumption)).mono ?_; rintro e w2 ⟨rfl, rfl⟩) | (go_at_call 14; ((with_reducible refine (power_any a n _ ha (by omega)).mono ?_); rintro e w2 ⟨rfl, rfl⟩)) | (go_at_call 14; ((with_reducible refine (power_any a m _ ha (by omega)).mono ?_); rintro e w2 ⟨rfl, rfl⟩)) | (go_at_call 14; ((with_reducible refine (power_sum a n m _ ha hn hm).mono ?_); rintro e w2 ⟨rfl, rfl⟩)) | (go_at_call 15; refine (rpower_any a n _ ha (by omega)).mono ?_; rintro e w2 ⟨rfl, hb2⟩))
    go_ret
    exact ⟨rfl, hb1.trans (hb2.mono hb1.size)⟩
  · have z : ((n : Int) == 0) = false := by simp; omega
    go_enter Try.func5, Try.ntmps5
    go_wp2_with (first | (go_at_call 8; refine (awake_any _).mono ?_; rintro e w1 ⟨rfl, hb1⟩) | (go_at_call 9; refine (mul_any _ _ _ (by assumption) (by assumption)).mono ?_; rintro e w2 ⟨rfl, rfl⟩) | (go_at_call 14; ((with_reducible refine (power_any a n _ ha (by omega)).mono ?_); rintro e w2 ⟨rfl, rfl⟩)) | (go_at_call 14; ((with_reducible refine (power_any a m _ ha (by omega)).mono ?_); rintro e w2 ⟨rfl, rfl⟩)) | (go_at_call 14; ((with_reducible refine (power_sum a n m _ ha hn hm).mono ?_); rintro e w2 ⟨rfl, rfl⟩)) | (go_at_call 14; ((with_reducible refine (power_neg a n _ ha h0 (by omega)).mono ?_); rintro e w2 ⟨rfl, rfl⟩)) | (go_at_call 15; ((with_reducible refine (rpower_any a n _ ha (by omega)).mono ?_); rintro e w2 ⟨rfl, hb2⟩)) | (go_at_call 13; refine (rinverse_any a _ ha).mono ?_; rintro e w4 ⟨rfl, hb4⟩) | (go_at_call 15; ((with_reducible refine (rpower_any (inv a) n _ l3 (by omega)).mono ?_); rintro e w5 ⟨rfl, hb5⟩)))
    go_ret
    have s1 := hb1.size
    have s2 := hb2.size
    have s4 := hb4.size
    exact ⟨ret_true (by simp), ((hb1.trans (hb2.mono (by omega))).trans (hb4.mono (by omega))).trans (hb5.mono (by omega))⟩
theorem rmul_pow (a n : Nat) (w : World) (ha : a < 256) : Calls Try.prog 10 #[.int .u8 a, .int .u8 ((2 : Int) ^ (n % 8) % 256)] w fun e w' => e = .returned (.int .u8 (gm a (pw 2 (n % 8)))) ∧ Below w.heap.size w w' := by
  have h := rmul_gm a (2 ^ (n % 8)) w ha (pow_lt8 (by omega))
  have e : ((2 ^ (n % 8) : Nat) : Int) = (2 : Int) ^ (n % 8) % 256 := by
    have h1 := pow_lt8 (i := n % 8) (by omega)
    have h2 : (2 : Int) ^ (n % 8) = ((2 ^ (n % 8) : Nat) : Int) := by simp
    rw [h2]
    generalize 2 ^ (n % 8) = q at *
    omega
  rw [e, ← pw_2 _ (show n % 8 < 8 by omega)] at h
  exact h
theorem power_mod (n : Nat) (w : World) : Calls Try.prog 14 #[.int .u8 2, .int .i64 ((n : Int) % 8)] w fun e w' => e = .returned (.int .u8 (pw 2 (n % 8))) ∧ w = w' := by
  have h := power_any 2 (n % 8) w (by omega) (by omega)
  rw [show ((n % 8 : Nat) : Int) = (n : Int) % 8 by omega] at h
  exact h
set_option maxHeartbeats 2000000 in
theorem ldoubles_any (a n : Nat) (w : World) (ha : a < 256) (hn : n ≤ 255) : Calls Try.prog 7 #[.int .u8 a, .int .u8 n] w fun e w' => e = .returned (.bool true) ∧ Below w.heap.size w w' := by
  go_enter Try.func7, Try.ntmps7
  go_wp2_with (first | (go_at_call 8; refine (awake_any _).mono ?_; rintro e w1 ⟨rfl, hb1⟩))
  go_loop [6, 7] (fun x i => ∃ j y : Nat, j ≤ n % 8 ∧ i = .int .i64 j ∧ y = dbln a j ∧ y < 256 ∧ x = .int .u8 y) (fun _ i => n % 8 - (intOf i).toNat)
  case atStart => exact ⟨0, a, by omega, rfl, rfl, ha, rfl⟩
  case round =>
    obtain ⟨j, y, hj, rfl, hy, hy2, rfl⟩ := hrel
    have HY := Lib.hid hy
    clear hy
    by_cases hlt : (j : Int) < (n : Int) % 8
    · go_wp2_with (go_at_call 11; refine (double_any y _ hy2).mono ?_; rintro e w3 ⟨rfl, rfl⟩)
      go_round
      case rel => exact ⟨j + 1, dbl y, by omega, by go_num, by rw [HY.out]; rfl, dbl_lt _, rfl⟩
      case measure => simp [intOf]; omega
    · have hy3 : y = gm a (pw 2 (n % 8)) := by rw [HY.out, ← dbln_gm a _ ha]; congr 1; omega
      subst hy3
      have l2 := pw_lt 2 (n % 8) (by omega)
      go_wp2_with (first | (go_at_call 10; refine (rmul_pow a n _ ha).mono ?_; rintro e w3 ⟨rfl, hb3⟩) | (go_at_call 14; refine (power_mod n _).mono ?_; rintro e w3 ⟨rfl, rfl⟩) | (go_at_call 9; refine (mul_any a (pw 2 (n % 8)) _ ha l2).mono ?_; rintro e w3 ⟨rfl, rfl⟩))
      go_ret
      exact ⟨ret_true (by simp), hb1.trans (hb3.mono hb1.size)⟩

theorem Bys.of_blk {w : World} {g t n : Nat} {l : List Nat} (h : Blk w g t (l.map fun (x : Nat) => Value.int .u8 x).toArray) (hn : l.length = n) (hl : ∀ x ∈ l, x < 256) : Bys w (some ⟨g, 0, none⟩) n l := by
  refine ⟨⟨by simp [hn], fun _ => ⟨⟨g, 0, none⟩, rfl, Blk.lt h, fun j u hu => ?_⟩⟩, hl⟩
  rw [add_none, Blk.cell h]
  simpa using hu
theorem prod_at {la lb : List Nat} {k x y : Nat} (hx : la[k]? = some x) (hy : lb[k]? = some y) : (List.zipWith gm la lb)[k]? = some (gm x y) := by
  simp [List.getElem?_zipWith, hx, hy]
set_option maxRecDepth 100000 in
set_option maxHeartbeats 2000000 in
theorem lsums_any (A : Option Addr) (len cap : Nat) (zs : List Int) (a0 a1 a2 a3 b0 b1 b2 b3 : Nat) (w : World) (hz : Ints .u8 w A len cap zs) (hcap : cap ≤ maxLen) (h0 : a0 < 256) (h1 : a1 < 256) (h2 : a2 < 256) (h3 : a3 < 256) (k0 : b0 < 256) (k1 : b1 < 256) (k2 : b2 < 256) (k3 : b3 < 256) :
    Calls Try.prog 6 #[.slice A len cap, .agg #[.int .u8 a0, .int .u8 a1, .int .u8 a2, .int .u8 a3], .agg #[.int .u8 b0, .int .u8 b1, .int .u8 b2, .int .u8 b3]] w fun e w' => e = .returned (.bool true) ∧ Below w.heap.size w w' := by
  unfold maxLen at hcap
  have hlc := hz.2.1
  have hbys := Bys.of_ints hz
  generalize zs.map Int.toNat = bs at hbys
  clear hz
  have HBY := Lib.hid hbys
  clear hbys
  by_cases hl : 500 < len
  · go_enter Try.func6, Try.ntmps6
    go_wp2_with fail
    refine (awake_any _).mono ?_
    rintro e w1 ⟨rfl, hb1⟩
    go_wp2_with fail
    refine (awake_any _).mono ?_
    rintro e w2 ⟨rfl, hb2⟩
    go_wp2_with fail
    go_ret
    refine ⟨rfl, ((((Below.refl _ _).alloc (Nat.le_refl _) _).alloc (by simp) _).trans (hb1.mono (by simp; omega))).trans (hb2.mono ?_)⟩
    have := hb1.size
    simp at this
    omega
  · go_enter Try.func6, Try.ntmps6
    go_wp2_with fail
    refine (awake_any _).mono ?_
    rintro e w1 ⟨rfl, hb1⟩
    have ha1 : Blk w1 w.heap.size 29 #[.int .u8 a0, .int .u8 a1, .int .u8 a2, .int .u8 a3] := Blk.below (Blk.alloc (Blk.new w 29 _) _) hb1 (by simp; omega)
    have hb2 : Blk w1 (w.heap.size + 1) 29 #[.int .u8 b0, .int .u8 b1, .int .u8 b2, .int .u8 b3] := Blk.below (by have := Blk.new (w.alloc (.cells #[.int .u8 a0, .int .u8 a1, .int .u8 a2, .int .u8 a3] 29)) 29 #[.int .u8 b0, .int .u8 b1, .int .u8 b2, .int .u8 b3]; simpa using this) hb1 (by simp)
    have hs1 := hb1.size
    simp at hs1
    have hbel : Below w.heap.size w w1 := (((Below.refl _ _).alloc (Nat.le_refl _) _).alloc (by simp) _).trans (hb1.mono (by simp; omega))
    clear hb1
    have HA := Lib.hid ha1
    have HBk := Lib.hid hb2
    have HW := Lib.hid hbel
    have HBY1 := Lib.hid (HBY.out.below hbel)
    clear ha1 hb2 hbel HBY
    go_wp2_with fail
    go_loop [7, 8] (fun x i => ∃ k r : Nat, k ≤ len ∧ i = .int .i64 k ∧ r < 256 ∧ r = xs 0 (bs.take k) ∧ x = .int .u8 r) (fun _ i => len - (intOf i).toNat)
    case atStart => exact ⟨0, 0, by omega, rfl, by omega, rfl, rfl⟩
    case round =>
      obtain ⟨k, r, hk, rfl, hr, hx, rfl⟩ := hrel
      have HX := Lib.hid hx
      clear hx
      by_cases hlt : k < len
      · obtain ⟨b, o, x, rfl, hb, hxk, hx256, hc⟩ := HBY1.out.cell hlt
        have HK := Lib.hid hxk
        clear hxk
        go_wp2_with (go_at_call 16; refine (xor_any r x _ hr hx256).mono ?_; rintro e w3 ⟨rfl, rfl⟩)
        go_round
        case rel => exact ⟨k + 1, r ^^^ x, by omega, by go_num, xor_lt hr hx256, by rw [xs_take HK.out, ← HX.out], rfl⟩
        case measure => simp [intOf]; omega
      · obtain rfl : k = len := by omega
        have hxl : r = xs 0 bs := by rw [HX.out, List.take_of_length_le (by rw [HBY1.out.len]; omega)]
        have HXL := Lib.hid hxl
        clear hxl
        go_wp2_with fail
        go_loopw [9, 10] (fun x i wr => ∃ j y : Nat, j ≤ 4 ∧ i = .int .i64 j ∧ y < 256 ∧ y = xs 0 ((List.zipWith gm [a0, a1, a2, a3] [b0, b1, b2, b3]).take j) ∧ x = .int .u8 y ∧ Below w1.heap.size w1 wr) (fun _ i _ => 4 - (intOf i).toNat)
        case atStart => exact ⟨0, 0, by omega, rfl, by omega, rfl, rfl, Below.refl _ _⟩
        case round =>
          obtain ⟨j, y, hj, rfl, hy, hyx, rfl, hbr⟩ := hrel
          have HYX := Lib.hid hyx
          have HBR := Lib.hid hbr
          have hlen1 : w1.heap.size ≤ wr.heap.size := hbr.size
          clear hyx hbr
          by_cases hlt : j < 4
          · have hA := Bys.of_blk (l := [a0, a1, a2, a3]) (HA.out.below HBR.out HA.out.lt) rfl (by simp; omega)
            have hB := Bys.of_blk (l := [b0, b1, b2, b3]) (HBk.out.below HBR.out HBk.out.lt) rfl (by simp; omega)
            obtain ⟨g, o, x, hgx, hgl, hx, hx256, hcx⟩ := hA.cell hlt
            obtain ⟨g', o', z, hgz, hgl', hz, hz256, hcz⟩ := hB.cell hlt
            injection hgx with hgx
            injection hgx with e1 e2 _
            subst e1 e2
            injection hgz with hgz
            injection hgz with e1 e2 _
            subst e1 e2
            rw [Nat.zero_add] at hcx hcz
            have HXZ := Lib.hid (prod_at hx hz)
            clear hA hB hx hz hgl hgl'
            have hgm := gm_lt x z hx256
            go_wp2_with fail
            go_region_held3 (fun w' => w'.cell? ⟨w.heap.size, j, none⟩ = some (.int .u8 (x : Nat)) ∧ w'.cell? ⟨w.heap.size + 1, j, none⟩ = some (.int .u8 (z : Nat))) (first | exact ⟨hcx, hcz⟩ | (constructor <;> first | assumption | exact (Below.cell (by assumption) (by simp; omega)).trans (by first | exact hcx | exact hcz))) (first | (go_at_call 10; ((with_reducible refine (rmul_gm x z _ hx256 hz256).mono ?_); rintro e w5 ⟨rfl, hb5⟩)) | (go_at_call 16; ((with_reducible refine (xor_any y (gm x z) _ hy hgm).mono ?_); rintro e w6 ⟨rfl, rfl⟩)))
            go_wp2_with fail
            go_roundw
            case rel => exact ⟨j + 1, y ^^^ gm x z, by omega, by go_num, xor_lt hy hgm, by rw [xs_take HXZ.out, ← HYX.out], rfl, by first | exact HBR.out.trans (hb5.mono hlen1) | exact HBR.out.drew.trans (hb5.mono hlen1) | exact (below_drewN HBR.out _).trans (hb5.mono hlen1) | exact (HBR.out.drew.trans (hb5.mono hlen1)).drew⟩
            case measure => simp [intOf]; omega
          · obtain rfl : j = 4 := by omega
            have hyy : y = xs 0 [gm a0 b0, gm a1 b1, gm a2 b2, gm a3 b3] := HYX.out
            have HBS := Lib.hid (HBY1.out.below HBR.out)
            have hrx := HXL.out
            clear HXL
            subst hyy hrx
            have c0 := Blk.cell (HA.out.below HBR.out HA.out.lt) 0
            have c1 := Blk.cell (HA.out.below HBR.out HA.out.lt) 1
            have c2 := Blk.cell (HA.out.below HBR.out HA.out.lt) 2
            have c3 := Blk.cell (HA.out.below HBR.out HA.out.lt) 3
            have d0 := Blk.cell (HBk.out.below HBR.out HBk.out.lt) 0
            have d1 := Blk.cell (HBk.out.below HBR.out HBk.out.lt) 1
            have d2 := Blk.cell (HBk.out.below HBR.out HBk.out.lt) 2
            have d3 := Blk.cell (HBk.out.below HBR.out HBk.out.lt) 3
            simp at c0 c1 c2 c3 d0 d1 d2 d3
            go_wp2_with (go_at_call 17; refine (sum_any _ _ _ bs _ HBS.out (by omega)).mono ?_; rintro e w6 ⟨rfl, rfl⟩)
            refine (dot_any a0 a1 a2 a3 b0 b1 b2 b3 _ h0 h1 h2 h3 k0 k1 k2 k3).mono ?_
            rintro e w7 ⟨rfl, hb7⟩
            have sr := HBR.out.size
            have c0' := (hb7.cell (p := ⟨w.heap.size, 0, none⟩) (by simp; omega)).trans c0
            have c1' := (hb7.cell (p := ⟨w.heap.size, 1, none⟩) (by simp; omega)).trans c1
            have c2' := (hb7.cell (p := ⟨w.heap.size, 2, none⟩) (by simp; omega)).trans c2
            have c3' := (hb7.cell (p := ⟨w.heap.size, 3, none⟩) (by simp; omega)).trans c3
            have d0' := (hb7.cell (p := ⟨w.heap.size + 1, 0, none⟩) (by simp; omega)).trans d0
            have d1' := (hb7.cell (p := ⟨w.heap.size + 1, 1, none⟩) (by simp; omega)).trans d1
            have d2' := (hb7.cell (p := ⟨w.heap.size + 1, 2, none⟩) (by simp; omega)).trans d2
            have d3' := (hb7.cell (p := ⟨w.heap.size + 1, 3, none⟩) (by simp; omega)).trans d3
            go_wp2_with fail
            refine (dot_swap a0 a1 a2 a3 b0 b1 b2 b3 _ h0 h1 h2 h3 k0 k1 k2 k3).mono ?_
            rintro e w8 ⟨rfl, hb8⟩
            go_wp2_with fail
            go_ret
            have s7 := hb7.size
            exact ⟨ret_true (by simp), (HW.out.trans (HBR.out.mono (by omega))).trans ((hb7.trans (hb8.mono (by omega))).mono (by omega))⟩
end Go.Proofs.Ytbmbclocmhhhdaa
