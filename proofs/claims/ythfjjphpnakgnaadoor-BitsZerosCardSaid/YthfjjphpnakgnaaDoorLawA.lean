import Derived.Test.YthfjjphpnakgnaaDoorAwk
namespace Go.Proofs.YthfjjphpnakgnaaDoor
open Go.ChangeShapes Go.WideShapes Go.ChangeAt Go.RowKit Go.Sort
set_option linter.unusedVariables false
set_option linter.unusedSimpArgs false
theorem rot_back (x : Nat) (hx : x < 4294967296) (m : Int) : rotN (rotN x (kOf m)) (kOf (-m)) = x := by
  rw [← rotN_add]
  rcases (show kOf m + kOf (-m) = 0 ∨ kOf m + kOf (-m) = 32 by unfold kOf; omega) with h | h
  · rw [h]; rfl
  · rw [h]; exact rotN_32 x hx
theorem rot_at (x y : Nat) (n : Int) (w : World) (hx : x < 4294967296) (hy : rotN x (kOf n) = y) :
    Calls Tryd.prog 14 #[.int .u32 (x : Nat), .int .i64 n] w fun e w' => e = .returned (.int .u32 (y : Nat)) ∧ w = w' := by
  have := rot_any x n w hx; rwa [hy] at this
theorem rrot_at (x y : Nat) (n : Int) (w : World) (hx : x < 4294967296) (hn : -9223372036854775808 ≤ n ∧ n ≤ 9223372036854775807) (hy : rotN x (kOf n) = y) :
    Calls Tryd.prog 15 #[.int .u32 (x : Nat), .int .i64 n] w fun e w' => e = .returned (.int .u32 (y : Nat)) ∧ w = w' := by
  have := rrot_any x n w hx hn; rwa [hy] at this
set_option maxRecDepth 100000 in
set_option maxHeartbeats 1000000 in
theorem rotates_any (x : Nat) (n m : Int) (w : World) (hT : Tab w) (hx : x < 4294967296) (hn : -9223372036854775808 ≤ n ∧ n ≤ 9223372036854775807) (hm : -128 ≤ m ∧ m ≤ 127) :
    Calls Tryd.prog 5 #[.int .u32 (x : Nat), .int .i64 n, .int .i8 m] w fun e w' => e = .returned (.bool true) ∧ Below w.heap.size w w' := by
  obtain ⟨r, hr⟩ : ∃ r, rotN x (kOf n) = r := ⟨_, rfl⟩
  obtain ⟨s, hs⟩ : ∃ s, rotN x (kOf m) = s := ⟨_, rfl⟩
  have hs2 : rotN s (kOf (-m)) = x := by rw [← hs]; exact rot_back x hx m
  have hs9 : s < 4294967296 := by rw [← hs]; exact rotN_lt x hx _
  have h0 : rotN x (kOf 0) = x := rfl
  have R1 := Lib.hid (rot_at x r n · hx hr)
  have R2 := Lib.hid (rrot_at x r n · hx hn hr)
  have R3 := Lib.hid (rot_at x s m · hx hs)
  have R4 := Lib.hid (rot_at s x (-m) · hs9 hs2)
  have R5 := Lib.hid (rot_at x x 0 · hx h0)
  have HT := Lib.hid hT
  clear hT hr hs hs2 h0
  go_enter Tryd.func5, Tryd.ntmps5
  go_wp2_with fail
  refine (awake_any _ HT.out).mono ?_
  rintro e w1 ⟨rfl, hb1⟩
  have HE := Lib.hid hb1
  clear hb1 HT
  go_wp2_with fail
  refine (R1.out _).mono ?_
  rintro e w2 ⟨rfl, rfl⟩
  go_wp2_with fail
  refine (R2.out _).mono ?_
  rintro e w2 ⟨rfl, rfl⟩
  go_wp2_with fail
  refine (R3.out _).mono ?_
  rintro e w2 ⟨rfl, rfl⟩
  go_wp2_with fail
  refine (R4.out _).mono ?_
  rintro e w2 ⟨rfl, rfl⟩
  go_wp2_with fail
  refine (R5.out _).mono ?_
  rintro e w2 ⟨rfl, rfl⟩
  go_wp2_with fail
  go_ret
  exact ⟨rfl, HE.out⟩
theorem zeros_at (x y : Nat) (hx : x < 18446744073709551616) (w : World) (hT : Tab w) (hy : Lib.ctz 64 x = y) :
    Calls Tryd.prog 19 #[.int .u64 (x : Nat)] w fun e w' => e = .returned (.int .i64 (y : Nat)) ∧ w = w' := by
  have := zeros_any x hx w hT; rwa [hy] at this
theorem rzeros_at (x y : Nat) (hx : x < 18446744073709551616) (w : World) (hy : Lib.ctz 64 x = y) :
    Calls Tryd.prog 20 #[.int .u64 (x : Nat)] w fun e w' => e = .returned (.int .i64 (y : Nat)) ∧ w = w' := by
  have := rzeros_any x hx w; rwa [hy] at this
theorem bit_at (A : Option Addr) (n c : Nat) (bs : List Nat) (i : Int) (y : Nat) (w : World) (hb : Bys w A n bs) (hn : n ≤ 1000) (hi : -9223372036854775808 ≤ i ∧ i ≤ 9223372036854775807) (hy : bitAt bs i = y) :
    Calls Tryd.prog 21 #[.slice A n c, .int .i64 i] w fun e w' => e = .returned (.int .i64 (y : Nat)) ∧ w = w' := by
  have := bit_any A n c bs i w hb hn hi; rwa [hy] at this
set_option maxRecDepth 100000 in
set_option maxHeartbeats 1000000 in
theorem zeroslaw_any (x : Nat) (A : Option Addr) (n c : Nat) (bs : List Nat) (i : Int) (w : World) (hT : Tab w) (hx : x < 18446744073709551616) (hb : Bys w A n bs) (hi : -9223372036854775808 ≤ i ∧ i ≤ 9223372036854775807) :
    Calls Tryd.prog 7 #[.int .u64 (x : Nat), .slice A n c, .int .i64 i] w fun e w' => e = .returned (.bool true) ∧ Below w.heap.size w w' := by
  have HT := Lib.hid hT
  have HB := Lib.hid hb
  have hl := hb.len
  clear hT hb
  by_cases h1 : 500 < n
  · clear hl
    go_enter Tryd.func7, Tryd.ntmps7
    go_wp2_with fail
    refine (awake_any _ HT.out).mono ?_
    rintro e w1 ⟨rfl, hb1⟩
    go_wp2_with fail
    refine (awake_any _ (HT.out.below hb1)).mono ?_
    rintro e w2 ⟨rfl, hb2⟩
    go_wp2_with fail
    go_ret
    exact ⟨rfl, hb1.trans (hb2.mono hb1.size)⟩
  · have hn1 : n ≤ 1000 := by omega
    obtain ⟨z, hz⟩ : ∃ z, Lib.ctz 64 x = z := ⟨_, rfl⟩
    have Z1 := Lib.hid (zeros_at x z hx · · hz)
    have Z2 := Lib.hid (rzeros_at x z hx · hz)
    clear hz
    by_cases h2 : 0 ≤ i ∧ i < 8 * (n : Int)
    · obtain ⟨k, rfl⟩ : ∃ k : Nat, i = (k : Int) := ⟨i.toNat, by omega⟩
      have hk : k / 8 < n := by omega
      obtain ⟨b1, o1, y, rfl, hb1, hy1, hy9, hcy⟩ := HB.out.cell hk
      obtain ⟨r, hr⟩ : ∃ r, 7 - k % 8 = r := ⟨_, rfl⟩
      have hv : bitAt bs (k : Int) = y / 2 ^ r % 2 := by
        unfold bitAt; rw [if_pos (by omega), Int.toNat_natCast, List.getD, hy1, ← hr]; rfl
      have B1 := Lib.hid (bit_at (some ⟨b1, o1, none⟩) n c bs (k : Int) _ · · hn1 hi hv)
      have HC := Lib.hid hcy
      have HBB := Lib.hid hb1
      have hk1 : (k : Int) < 8 * (n : Int) := h2.2
      have hq1 : IntKind.i64.wrap ((k : Int).tdiv 8) = (k : Int) / 8 := IntWalk.i64_quo _ _ (by omega)
      have hk8 : ((k : Int) / 8).toNat = k / 8 := by omega
      have hr1 : (7 - (k : Int) % 8).toNat = r := by omega
      have hr2 : (0 : Int) ≤ 7 - (k : Int) % 8 := by omega
      have hwx := wrap_div y r hy9
      have ht2 := tm2 y r
      have hr3 : IntKind.u64.wrap (7 - (k : Int) % 8) = 7 - (k : Int) % 8 := IntWalk.u64_in _ (by omega)
      clear hl hy1 hr hv hcy h2 hb1
      go_enter Tryd.func7, Tryd.ntmps7
      go_wp2_with fail
      refine (awake_any _ HT.out).mono ?_
      rintro e w1 ⟨rfl, hb⟩
      have HE := Lib.hid hb
      have HB1 := Lib.hid (HB.out.below hb)
      have HT1 := Lib.hid (HT.out.below hb)
      have c1 := (hb.cell (p := ⟨b1, o1 + k / 8, none⟩) HBB.out).trans HC.out
      clear hb HT HB
      go_wp2_with fail
      refine (Z1.out _ HT1.out).mono ?_
      rintro e w2 ⟨rfl, rfl⟩
      go_wp2_with fail
      refine (Z2.out _).mono ?_
      rintro e w2 ⟨rfl, rfl⟩
      go_wp2_with fail
      refine (B1.out _ HB1.out).mono ?_
      rintro e w2 ⟨rfl, rfl⟩
      go_wp2_with fail
      go_ret
      exact ⟨ret_true (by simp), HE.out⟩
    · have hv : bitAt bs i = 0 := by unfold bitAt; rw [if_neg (by rw [hl]; exact h2)]
      have B1 := Lib.hid (bit_at A n c bs i 0 · · hn1 hi hv)
      clear hl hv
      by_cases h3 : 0 ≤ i
      all_goals
        have h4 : 0 ≤ i → ¬ i < 8 * (n : Int) := fun h h' => h2 ⟨h, h'⟩
        first | (have h5 := h4 h3) | skip
        clear h4 h2
        go_enter Tryd.func7, Tryd.ntmps7
        go_wp2_with fail
        refine (awake_any _ HT.out).mono ?_
        rintro e w1 ⟨rfl, hb⟩
        have HE := Lib.hid hb
        have HB1 := Lib.hid (HB.out.below hb)
        have HT1 := Lib.hid (HT.out.below hb)
        clear hb HT HB
        go_wp2_with fail
        refine (Z1.out _ HT1.out).mono ?_
        rintro e w2 ⟨rfl, rfl⟩
        go_wp2_with fail
        refine (Z2.out _).mono ?_
        rintro e w2 ⟨rfl, rfl⟩
        go_wp2_with fail
        refine (B1.out _ HB1.out).mono ?_
        rintro e w2 ⟨rfl, rfl⟩
        go_wp2_with fail
        go_ret
        exact ⟨ret_true (by simp), HE.out⟩
end Go.Proofs.YthfjjphpnakgnaaDoor
