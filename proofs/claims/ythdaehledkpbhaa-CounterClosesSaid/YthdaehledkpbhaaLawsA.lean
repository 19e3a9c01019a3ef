import Derived.Test.YthdaehledkpbhaaCounter
namespace Go.Proofs.Ythdaehledkpbhaa
open Go.ChangeShapes Go.WideShapes Go.ChangeAt Go.RowKit
set_option linter.unusedVariables false
set_option linter.unusedSimpArgs false
attribute [local go_sem] eqlErr
theorem Ctr.eq {w : World} {b : Nat} {n n' g g' : Int} {c : Bool} (h : Ctr w b n g c) (hn : n = n') (hg : g = g') : Ctr w b n' g' c := by subst hn hg; exact h
theorem Ctr.below {w w' : World} {b : Nat} {n g : Int} {c : Bool} (h : Ctr w b n g c) (hb : Below w.heap.size w w') : Ctr w' b n g c := Blk.below h hb (Blk.lt h)
theorem new_le (n : Int) (w : World) (h0 : 0 ≤ n) (h : n ≤ 9223372036854775807) : Calls Try.prog 9 #[.int .u64 n] w fun e w' => ∃ b, e = .returned (.pointer (some ⟨b, 0, none⟩)) ∧ Ctr w' b n 0 false ∧ w.heap.size ≤ b ∧ Below w.heap.size w w' :=
  (new_any n w h0 (by omega)).mono fun e w' ⟨b, he, hc, hb, hw⟩ => ⟨b, he, by rw [if_pos h] at hc; exact hc, by omega, by subst hw; exact (Below.refl _ _).alloc (Nat.le_refl _) _⟩
theorem new_gt (n : Int) (w : World) (h0 : 9223372036854775807 ≤ n) (h : n ≤ 18446744073709551615) : Calls Try.prog 9 #[.int .u64 n] w fun e w' => ∃ b, e = .returned (.pointer (some ⟨b, 0, none⟩)) ∧ Ctr w' b 9223372036854775807 0 false ∧ w.heap.size ≤ b ∧ Below w.heap.size w w' :=
  (new_any n w (by omega) (by omega)).mono fun e w' ⟨b, he, hc, hb, hw⟩ => ⟨b, he, hc.eq (by split <;> omega) rfl, by omega, by subst hw; exact (Below.refl _ _).alloc (Nat.le_refl _) _⟩

set_option maxHeartbeats 2000000 in
theorem rises_any (k x : Nat) (w : World) (hk : k ≤ 255) (hx : x ≤ 255) :
    Calls Try.prog 3 #[.int .u8 k, .int .u8 x] w fun e w' => e = .returned (.bool true) ∧ Below w.heap.size w w' := by
  go_enter Try.func3, Try.ntmps3
  go_wp2_with (first | (go_at_call 8; refine (awake_any _).mono ?_; rintro e w1 ⟨rfl, hb1⟩) | (go_at_call 9; refine (new_le _ _ (by omega) (by omega)).mono ?_; rintro e w2 ⟨b, rfl, hc, hlb, hb2⟩))
  go_loopw [7] (fun i wr => ∃ j : Nat, j ≤ k ∧ i = .int .i64 j ∧ Ctr wr b (9223372036854775807 - k + j) j false ∧ Below w.heap.size w wr) (fun i _ => k - (intOf i).toNat)
  case atStart => exact ⟨0, by omega, rfl, hc.eq (by omega) rfl, hb1.trans (hb2.mono hb1.size)⟩
  case round =>
    obtain ⟨j, hj, rfl, hc', hb⟩ := hrel
    have hsz := hb1.size
    by_cases hlt : j < k
    · go_wp2_with (go_at_call 10; refine (next_ok _ _ _ _ hc' (by omega) (by omega) (by omega) (by omega)).mono ?_; rintro e w3 ⟨rfl, hc3, hg3⟩)
      go_roundw
      case rel => exact ⟨j + 1, by omega, by go_num, hc3.eq (by omega) (by omega), below_only hb hg3 hb.size (by omega)⟩
      case measure => simp [intOf]; omega
    · obtain rfl : j = k := by omega
      have hc4 := hc'.eq (show _ = (9223372036854775807 : Int) by omega) rfl
      clear hc'
      go_wp2
      go_loopw [10] (fun i wr => ∃ y : Nat, y ≤ x + 1 ∧ i = .int .i64 y ∧ Ctr wr b 9223372036854775807 j false ∧ Below w.heap.size w wr) (fun i _ => x + 1 - (intOf i).toNat)
      case atStart => exact ⟨0, by omega, rfl, hc4, hb⟩
      case round =>
        obtain ⟨y, hy, rfl, hc5, hb5⟩ := hrel
        by_cases hlt5 : y < x + 1
        · go_wp2_with (first | (go_at_call 10; refine (next_out _ _ _ hc5).mono ?_; rintro e w3 ⟨rfl, rfl⟩) | (go_at_call 11; refine (told_err _ _ (by omega)).mono ?_; rintro e w3 ⟨rfl, rfl⟩))
          go_roundw
          case rel => exact ⟨y + 1, by omega, by go_num, hc5, hb5⟩
          case measure => simp [intOf]; omega
        · go_wp2_with (first | (go_at_call 12; refine (given_any _ _ _ _ _ hc5).mono ?_; rintro e w3 ⟨rfl, rfl⟩) | (go_at_call 13; refine (left_any _ _ _ _ _ hc5 (by omega) (by omega)).mono ?_; rintro e w3 ⟨rfl, rfl⟩))
          go_ret
          exact ⟨rfl, hb5⟩

set_option maxHeartbeats 2000000 in
theorem large_any (x : Int) (w : World) (hx0 : 0 ≤ x) (hx : x ≤ 18446744073709551615) :
    Calls Try.prog 6 #[.int .u64 x] w fun e w' => e = .returned (.bool true) ∧ Below w.heap.size w w' := by
  by_cases h : x < 9223372036854775807
  · go_enter Try.func6, Try.ntmps6
    go_wp2_with fail
    refine (awake_any _).mono ?_
    rintro e w1 ⟨rfl, hb1⟩
    go_wp2_with fail
    refine (awake_any _).mono ?_
    rintro e w2 ⟨rfl, hb2⟩
    go_wp2_with fail
    go_ret
    exact ⟨rfl, hb1.trans (hb2.mono hb1.size)⟩
  · go_enter Try.func6, Try.ntmps6
    go_wp2_with fail
    refine (awake_any _).mono ?_
    rintro e w1 ⟨rfl, hb1⟩
    go_wp2_with fail
    refine (new_gt _ _ (by omega) (by omega)).mono ?_
    rintro e w2 ⟨b, rfl, hc, hlb, hb2⟩
    go_wp2_with (first | (go_at_call 10; refine (next_out _ _ _ hc).mono ?_; rintro e w3 ⟨rfl, rfl⟩) | (go_at_call 16; refine (peek_out _ _ _ hc).mono ?_; rintro e w3 ⟨rfl, rfl⟩))
    refine (close_any _ _ _ _ _ hc).mono ?_
    rintro e w3 ⟨rfl, hc3, hg3⟩
    go_wp2_with (first | (go_at_call 10; refine (next_closed _ _ _ _ hc3).mono ?_; rintro e w4 ⟨rfl, rfl⟩) | (go_at_call 11; refine (told_err _ _ (by omega)).mono ?_; rintro e w3 ⟨rfl, rfl⟩) | (go_at_call 12; refine (given_any _ _ _ _ _ hc3).mono ?_; rintro e w3 ⟨rfl, rfl⟩) | (go_at_call 13; refine (left_any _ _ _ _ _ hc3 (by omega) (by omega)).mono ?_; rintro e w3 ⟨rfl, rfl⟩))
    go_ret
    have := hb1.size
    have := hb2.size
    exact ⟨rfl, below_only (hb1.trans (hb2.mono hb1.size)) hg3 (by omega) (by omega)⟩

theorem rnew_any (n : Int) (w : World) (h0 : 0 ≤ n) (h : n ≤ 18446744073709551615) : Calls Try.prog 15 #[.int .u64 n] w fun e w' => e = .returned (.agg #[.int .u64 (if n ≤ 9223372036854775807 then n else 9223372036854775807), .int .u64 0, .bool false]) ∧ Below w.heap.size w w' := by
  by_cases hn : n ≤ 9223372036854775807
  · rw [if_pos hn]
    go_enter Try.func15, Try.ntmps15
    go_wp2
    go_returns
    exact ⟨rfl, by go_grown⟩
  · rw [if_neg hn]
    go_enter Try.func15, Try.ntmps15
    go_wp2
    go_returns
    exact ⟨rfl, by go_grown⟩
theorem rpeek_closed (f k : Int) (w : World) : Calls Try.prog 14 #[.agg #[.int .u64 f, .int .u64 k, .bool true]] w fun e w' => e = .returned (.tuple #[.int .u64 0, .int .i64 7]) ∧ Below w.heap.size w w' := by
  go_enter Try.func14, Try.ntmps14
  go_wp2
  go_returns
  exact ⟨rfl, by go_grown⟩
theorem rpeek_out (f k : Int) (w : World) (h0 : 0 ≤ f) (h1 : 0 ≤ k) (h : f + k = 9223372036854775807) : Calls Try.prog 14 #[.agg #[.int .u64 f, .int .u64 k, .bool false]] w fun e w' => e = .returned (.tuple #[.int .u64 0, .int .i64 6]) ∧ Below w.heap.size w w' := by
  go_enter Try.func14, Try.ntmps14
  go_wp2
  go_returns
  exact ⟨rfl, by go_grown⟩
theorem rpeek_ok (f k : Int) (w : World) (h0 : 0 ≤ f) (h1 : 0 ≤ k) (h : f + k < 9223372036854775807) : Calls Try.prog 14 #[.agg #[.int .u64 f, .int .u64 k, .bool false]] w fun e w' => e = .returned (.tuple #[.int .u64 (f + k), .int .i64 0]) ∧ Below w.heap.size w w' := by
  go_enter Try.func14, Try.ntmps14
  go_wp2
  go_returns
  exact ⟨rfl, by go_grown⟩
/-- The counter's first number. -/
def top (n : Int) : Int := if n ≤ 9223372036854775807 then n else 9223372036854775807
theorem top_le (n : Int) : top n ≤ 9223372036854775807 := by unfold top; split <;> omega
theorem top_0 (n : Int) (h : 0 ≤ n) : 0 ≤ top n := by unfold top; split <;> omega
theorem rnew_top (n : Int) (w : World) (h0 : 0 ≤ n) (h : n ≤ 18446744073709551615) : Calls Try.prog 15 #[.int .u64 n] w fun e w' => e = .returned (.agg #[.int .u64 (top n), .int .u64 0, .bool false]) ∧ Below w.heap.size w w' := rnew_any n w h0 h
theorem new_top (n : Int) (w : World) (h0 : 0 ≤ n) (h : n ≤ 18446744073709551615) : Calls Try.prog 9 #[.int .u64 n] w fun e w' => ∃ b, e = .returned (.pointer (some ⟨b, 0, none⟩)) ∧ Ctr w' b (top n) 0 false ∧ w.heap.size ≤ b ∧ Below w.heap.size w w' ∧ b < w'.heap.size :=
  (new_any n w h0 h).mono fun e w' ⟨b, he, hc, hb, hw⟩ => ⟨b, he, hc, by omega, by subst hw; exact (Below.refl _ _).alloc (Nat.le_refl _) _, Blk.lt hc⟩

set_option maxHeartbeats 2000000 in
theorem peeks_any (x : Int) (n : Nat) (w : World) (hx0 : 0 ≤ x) (hx : x ≤ 18446744073709551615) (hn : n ≤ 255) :
    Calls Try.prog 4 #[.int .u64 x, .int .u8 n] w fun e w' => e = .returned (.bool true) ∧ Below w.heap.size w w' := by
  have ht := top_le x
  have ht0 := top_0 x hx0
  by_cases ho : top x = 9223372036854775807
  · go_enter Try.func4, Try.ntmps4
    have HO := Lib.hid ho
    clear ho
    go_wp2_with (first | (go_at_call 8; refine (awake_any _).mono ?_; rintro e w1 ⟨rfl, hb1⟩) | (go_at_call 9; refine (new_top _ _ (by omega) (by omega)).mono ?_; rintro e w2 ⟨b, rfl, hc, hlb, hb2, hlt2⟩) | (go_at_call 15; refine (rnew_top _ _ (by omega) (by omega)).mono ?_; rintro e w3 ⟨rfl, hb3⟩) | (go_at_call 14; refine (rpeek_out _ _ _ (by omega) (by omega) (by have := HO.out; omega)).mono ?_; rintro e w4 ⟨rfl, hb4⟩))
    have hcc : Ctr w4 b 9223372036854775807 0 false := ((hc.below hb3).below hb4).eq HO.out rfl
    have s1 := hb1.size
    have s2 := hb2.size
    have s3 := hb3.size
    have hbb : Below w.heap.size w w4 := ((hb1.trans (hb2.mono (by omega))).trans (hb3.mono (by omega))).trans (hb4.mono (by omega))
    clear hc hb1 hb2 hb3 hb4
    go_loopw [8] (fun i wr => ∃ j : Nat, j ≤ 20 ∧ i = .int .i64 j ∧ Ctr wr b 9223372036854775807 0 false ∧ Below w.heap.size w wr) (fun i _ => 20 - (intOf i).toNat)
    case atStart => exact ⟨0, by omega, rfl, hcc, hbb⟩
    case round =>
      obtain ⟨j, hj, rfl, hc', hb⟩ := hrel
      by_cases hlt : (j : Int) < (n : Int) % 20
      · go_wp2_with (first | (go_at_call 16; refine (peek_out _ _ _ hc').mono ?_; rintro e w5 ⟨rfl, rfl⟩) | (go_at_call 11; refine (told_err _ _ (by omega)).mono ?_; rintro e w5 ⟨rfl, rfl⟩))
        go_roundw
        case rel => exact ⟨j + 1, by omega, by go_num, hc', hb⟩
        case measure => simp [intOf]; omega
      · go_wp2_with (first | (go_at_call 10; refine (next_out _ _ _ hc').mono ?_; rintro e w5 ⟨rfl, rfl⟩) | (go_at_call 11; refine (told_err _ _ (by omega)).mono ?_; rintro e w5 ⟨rfl, rfl⟩) | (go_at_call 12; refine (given_any _ _ _ _ _ hc').mono ?_; rintro e w3 ⟨rfl, rfl⟩))
        go_ret
        exact ⟨rfl, hb⟩
  · have ho' : top x < 9223372036854775807 := by omega
    clear ho
    go_enter Try.func4, Try.ntmps4
    go_wp2_with (first | (go_at_call 8; refine (awake_any _).mono ?_; rintro e w1 ⟨rfl, hb1⟩) | (go_at_call 9; refine (new_top _ _ (by omega) (by omega)).mono ?_; rintro e w2 ⟨b, rfl, hc, hlb, hb2, hlt2⟩) | (go_at_call 15; refine (rnew_top _ _ (by omega) (by omega)).mono ?_; rintro e w3 ⟨rfl, hb3⟩) | (go_at_call 14; refine (rpeek_ok _ _ _ (by omega) (by omega) (by omega)).mono ?_; rintro e w4 ⟨rfl, hb4⟩))
    have hcc : Ctr w4 b (top x) 0 false := ((hc.below hb3).below hb4)
    have s1 := hb1.size
    have s2 := hb2.size
    have s3 := hb3.size
    have hbb : Below w.heap.size w w4 := ((hb1.trans (hb2.mono (by omega))).trans (hb3.mono (by omega))).trans (hb4.mono (by omega))
    clear hc hb1 hb2 hb3 hb4
    go_loopw [8] (fun i wr => ∃ j : Nat, j ≤ 20 ∧ i = .int .i64 j ∧ Ctr wr b (top x) 0 false ∧ Below w.heap.size w wr) (fun i _ => 20 - (intOf i).toNat)
    case atStart => exact ⟨0, by omega, rfl, hcc, hbb⟩
    case round =>
      obtain ⟨j, hj, rfl, hc', hb⟩ := hrel
      by_cases hlt : (j : Int) < (n : Int) % 20
      · go_wp2_with (first | (go_at_call 16; refine (peek_ok _ _ _ _ hc' ho').mono ?_; rintro e w5 ⟨rfl, rfl⟩) | (go_at_call 11; refine (told_ok _).mono ?_; rintro e w5 ⟨rfl, rfl⟩))
        go_roundw
        case rel => exact ⟨j + 1, by omega, by go_num, hc', hb⟩
        case measure => simp [intOf]; omega
      · go_wp2_with fail
        refine (next_ok _ _ _ _ hc' (by omega) (by omega) (by omega) (by omega)).mono ?_
        rintro e w5 ⟨rfl, hc5, hg5⟩
        go_wp2_with (first | (go_at_call 11; refine (told_ok _).mono ?_; rintro e w6 ⟨rfl, rfl⟩) | (go_at_call 12; refine (given_any _ _ _ _ _ hc5).mono ?_; rintro e w6 ⟨rfl, rfl⟩))
        go_ret
        exact ⟨rfl, below_only hb hg5 hb.size (by omega)⟩

set_option maxHeartbeats 2000000 in
theorem closes_any (x : Int) (n : Nat) (w : World) (hx0 : 0 ≤ x) (hx : x ≤ 18446744073709551615) (hn : n ≤ 255) :
    Calls Try.prog 7 #[.int .u64 x, .int .u8 n] w fun e w' => e = .returned (.bool true) ∧ Below w.heap.size w w' := by
  have ht := top_le x
  have ht0 := top_0 x hx0
  go_enter Try.func7, Try.ntmps7
  go_wp2_with (first | (go_at_call 8; refine (awake_any _).mono ?_; rintro e w1 ⟨rfl, hb1⟩) | (go_at_call 9; refine (new_top _ _ (by omega) (by omega)).mono ?_; rintro e w2 ⟨b, rfl, hc, hlb, hb2, hlt2⟩))
  have s1 := hb1.size
  have s2 := hb2.size
  have hbb : Below w.heap.size w w2 := hb1.trans (hb2.mono (by omega))
  clear hb1 hb2
  go_loopw [6] (fun i wr => ∃ j : Nat, j ≤ n ∧ i = .int .i64 j ∧ (∃ m g : Int, 0 ≤ m ∧ m ≤ 9223372036854775807 ∧ 0 ≤ g ∧ g ≤ j ∧ Ctr wr b m g false) ∧ Below w.heap.size w wr) (fun i _ => n - (intOf i).toNat)
  case atStart => exact ⟨0, by omega, rfl, ⟨_, _, ht0, ht, by omega, by omega, hc⟩, hbb⟩
  case round =>
    obtain ⟨j, hj, rfl, ⟨m, g, hm0, hm, hg0, hg, hc'⟩, hb⟩ := hrel
    by_cases hlt : j < n
    · by_cases hmx : m = 9223372036854775807
      · subst hmx
        go_wp2_with (go_at_call 10; refine (next_out _ _ _ hc').mono ?_; rintro e w5 ⟨rfl, rfl⟩)
        go_roundw
        case rel => exact ⟨j + 1, by omega, by go_num, ⟨_, _, by omega, by omega, hg0, by omega, hc'⟩, hb⟩
        case measure => simp [intOf]; omega
      · go_wp2_with fail
        refine (next_ok _ _ _ _ hc' (by omega) (by omega) (by omega) (by omega)).mono ?_
        rintro e w5 ⟨rfl, hc5, hg5⟩
        go_wp2_with fail
        go_roundw
        case rel => exact ⟨j + 1, by omega, by go_num, ⟨_, _, by omega, by omega, by omega, by omega, hc5⟩, below_only hb hg5 hb.size (by omega)⟩
        case measure => simp [intOf]; omega
    · go_wp2_with (go_at_call 12; refine (given_any _ _ _ _ _ hc').mono ?_; rintro e w6 ⟨rfl, rfl⟩)
      refine (close_any _ _ _ _ _ hc').mono ?_
      rintro e w5 ⟨rfl, hc5, hg5⟩
      go_wp2_with (first | (go_at_call 17; refine (close_nil _).mono ?_; rintro e w6 ⟨rfl, rfl⟩) | (go_at_call 10; refine (next_closed _ _ _ _ hc5).mono ?_; rintro e w6 ⟨rfl, rfl⟩) | (go_at_call 16; ((with_reducible refine (peek_closed _ _ _ _ hc5).mono ?_); rintro e w6 ⟨rfl, rfl⟩)) | (go_at_call 16; refine (peek_nil _).mono ?_; rintro e w6 ⟨rfl, rfl⟩) | (go_at_call 11; refine (told_err _ _ (by omega)).mono ?_; rintro e w6 ⟨rfl, rfl⟩) | (go_at_call 13; ((with_reducible refine (left_any _ _ _ _ _ hc5 (by omega) (by omega)).mono ?_); rintro e w6 ⟨rfl, rfl⟩)) | (go_at_call 13; refine (left_nil _).mono ?_; rintro e w6 ⟨rfl, rfl⟩) | (go_at_call 12; ((with_reducible refine (given_any _ _ _ _ _ hc5).mono ?_); rintro e w6 ⟨rfl, rfl⟩)) | (go_at_call 12; refine (given_nil _).mono ?_; rintro e w6 ⟨rfl, rfl⟩))
      go_ret
      exact ⟨rfl, below_only hb hg5 hb.size (by omega)⟩
end Go.Proofs.Ythdaehledkpbhaa
