import Derived.Test.YtbmbclocmhhhdaaRows
import Derived.Test.YtbmbclocmhhhdaaBase
import Derived.Test.YtbmbclocmhhhdaaPlain
namespace Go.Proofs.Ytbmbclocmhhhdaa
open Go.ChangeShapes Go.WideShapes Go.ChangeAt Go.RowKit
set_option linter.unusedVariables false
set_option linter.unusedSimpArgs false
theorem dbl_bits : (List.range 256).all (fun a => bits .xor .u8 ((a : Int) * 2 % 256) (bits .and .u8 (IntKind.i8.wrap (a : Int) / 128 % 256) 27) == ((dbl a : Nat) : Int)) = true := by decide +kernel
theorem double_any (a : Nat) (w : World) (h : a < 256) : Calls Try.prog 11 #[.int .u8 a] w fun e w' => e = .returned (.int .u8 (dbl a)) ∧ w = w' := by
  go_enter Try.func11, Try.ntmps11
  go_wp2
  go_ret
  have hs := dbl_bits
  simp only [List.all_eq_true, List.mem_range, beq_iff_eq] at hs
  exact ⟨ret_int (hs a h), rfl⟩
theorem xor_any (a b : Nat) (w : World) (h : a < 256) (hb : b < 256) : Calls Try.prog 16 #[.int .u8 a, .int .u8 b] w fun e w' => e = .returned (.int .u8 ((a ^^^ b : Nat))) ∧ w = w' := by
  go_enter Try.func16, Try.ntmps16
  go_wp2
  go_ret
  exact ⟨ret_int (u8_xor_nat a b h hb), rfl⟩
set_option maxHeartbeats 1000000 in
theorem mul_any (a b : Nat) (w : World) (ha : a < 256) (hb : b < 256) : Calls Try.prog 9 #[.int .u8 a, .int .u8 b] w fun e w' => e = .returned (.int .u8 (gm a b)) ∧ w = w' := by
  go_enter Try.func9, Try.ntmps9
  go_wp2
  go_step3
  go_wp2
  go_step3
  go_wp2
  go_loop [0, 1, 5] (fun x y o => ∃ n a' b' r : Nat, n ≤ 8 ∧ a' < 256 ∧ b' < 2 ^ n ∧ b' < 256 ∧ r < 256 ∧ r ^^^ gmf n a' b' = gm a b ∧ x = .int .u8 a' ∧ y = .int .u8 b' ∧ o = .int .u8 r) (fun _ y _ => (intOf y).toNat)
  case atStart => exact ⟨8, a, b, 0, by omega, ha, by omega, hb, by omega, by rw [Nat.zero_xor]; rfl, rfl, rfl, rfl⟩
  case round =>
    obtain ⟨n, a', b', r, hn, ha', hbn, hb', hr, hg, rfl, rfl, rfl⟩ := hrel
    have HG := Lib.hid hg
    have HB := Lib.hid hbn
    clear hg hbn
    by_cases h0 : b' = 0
    · subst h0
      go_wp2
      go_ret
      exact ⟨ret_int (by have := HG.out; rw [gmf_zero, Nat.xor_zero] at this; rw [this]), rfl⟩
    · have hne : ((b' : Int) == 0) = false := by simp; omega
      obtain ⟨m, rfl⟩ : ∃ m, n = m + 1 := by
        cases n with
        | zero => have := HB.out; simp at this; omega
        | succ m => exact ⟨m, rfl⟩
      have hbm : b' / 2 < 2 ^ m := by have := HB.out; rw [Nat.pow_succ] at this; omega
      have HM := Lib.hid hbm
      clear hbm
      by_cases h1 : b' % 2 = 1
      · have e1 : bits .and .u8 (b' : Int) 1 = 1 := by
          have := u8_and_nat b' 1 hb' (by omega)
          rw [show ((1 : Nat) : Int) = 1 from rfl] at this
          rw [this, nat_mask1, h1]; rfl
        have e2 := u8_xor_nat r a' hr ha'
        have hg' : (r ^^^ a') ^^^ gmf m (dbl a') (b' / 2) = gm a b := by
          have := HG.out
          simp only [gmf, h1, if_true] at this
          rw [Nat.xor_assoc]; exact this
        have HG' := Lib.hid hg'
        have H1 := Lib.hid h1
        clear hg' h1
        go_wp2_with (go_at_call 11; refine (double_any _ _ ha').mono ?_; rintro e w1 ⟨rfl, rfl⟩)
        go_round
        case rel => exact ⟨m, dbl a', b' / 2, r ^^^ a', by omega, dbl_lt _, HM.out, by omega, xor_lt hr ha', HG'.out, rfl, by first | rfl | go_num, by first | rfl | go_num⟩
        case measure => simp [intOf]; omega
      · have e1 : bits .and .u8 (b' : Int) 1 = 0 := by
          have := u8_and_nat b' 1 hb' (by omega)
          rw [show ((1 : Nat) : Int) = 1 from rfl] at this
          rw [this, nat_mask1, show b' % 2 = 0 by omega]; rfl
        have hg' : r ^^^ gmf m (dbl a') (b' / 2) = gm a b := by
          have := HG.out
          simp only [gmf, h1, if_false, Nat.zero_xor] at this
          exact this
        have HG' := Lib.hid hg'
        have H1 := Lib.hid h1
        clear hg' h1
        go_wp2_with (go_at_call 11; refine (double_any _ _ ha').mono ?_; rintro e w1 ⟨rfl, rfl⟩)
        go_round
        case rel => exact ⟨m, dbl a', b' / 2, r, by omega, dbl_lt _, HM.out, by omega, hr, HG'.out, rfl, by first | rfl | go_num, by first | rfl | go_num⟩
        case measure => simp [intOf]; omega

/-! ### the reference's product: an array of 15 numbers, of which the parities are a polynomial's bits -/
def Arr (w : World) (g : Nat) (ps : List Int) : Prop := ps.length = 15 ∧ Blk w g 34 (ps.map (Value.int .i64)).toArray
theorem Arr.cell {w : World} {g m : Nat} {ps : List Int} (h : Arr w g ps) (hm : m < 15) : w.cell? ⟨g, m, none⟩ = some (.int .i64 (ps.getD m 0)) := by
  rw [Blk.cell h.2 m]
  have : m < ps.length := by rw [h.1]; exact hm
  simp [this]
theorem Arr.set {w : World} {g m : Nat} {ps : List Int} (h : Arr w g ps) (v : Int) : Arr (w.setCell ⟨g, m, none⟩ (.int .i64 v)) g (ps.set m v) := by
  refine ⟨by simp [h.1], ?_⟩
  have := Blk.set_ h.2 m (.int .i64 v)
  unfold Blk at this ⊢
  rw [this]
  simp [List.map_set]
/-- The numbers are between 0 and K, and odd where the polynomial has a bit. -/
def Par (ps : List Int) (q : Nat) (K : Int) : Prop := ∀ m, m < 15 → 0 ≤ ps.getD m 0 ∧ ps.getD m 0 ≤ K ∧ ps.getD m 0 % 2 = if q.testBit m then 1 else 0
theorem Par.add {ps : List Int} {q m : Nat} {K v : Int} {x : Bool} (hl : ps.length = 15) (h : Par ps q K) (hm : m < 15) (hv : v = if x then 1 else 0) : Par (ps.set m (ps.getD m 0 + v)) (q ^^^ (if x then 2 ^ m else 0)) (K + 1) := by
  intro j hj
  obtain ⟨h1, h2, h3⟩ := h j hj
  by_cases hjm : j = m
  · subst hjm
    have e : (ps.set j (ps.getD j 0 + v)).getD j 0 = ps.getD j 0 + v := by simp [List.getD, hl, hj]
    rw [e, Nat.testBit_xor]
    generalize ps.getD j 0 = z at *
    cases x
    · simp only [Bool.false_eq_true, if_false] at hv ⊢
      simp only [Nat.zero_testBit, Bool.xor_false]
      subst hv
      refine ⟨by omega, by omega, by rw [Int.add_zero]; exact h3⟩
    · simp only [if_true] at hv ⊢
      rw [Nat.testBit_two_pow_self]
      subst hv
      cases hq : q.testBit j <;> simp [hq] at h3 ⊢ <;> omega
  · have e : (ps.set m (ps.getD m 0 + v)).getD j 0 = ps.getD j 0 := by simp [List.getD, List.getElem?_set_ne (Ne.symm hjm)]
    rw [e, Nat.testBit_xor]
    have : (if x then 2 ^ m else 0).testBit j = false := by
      cases x
      · simp
      · simp only [if_true]; rw [Nat.testBit_two_pow_of_ne (Ne.symm hjm)]
    rw [this, Bool.xor_false]
    exact ⟨h1, by omega, h3⟩
theorem Par.zero : Par (List.replicate 15 0) 0 0 := by
  intro m hm
  have hs : ∀ m, m < 15 → (List.replicate 15 (0 : Int)).getD m 0 = 0 := by decide
  rw [hs m hm]
  simp
theorem Par.eq {ps : List Int} {q q' : Nat} {K K' : Int} (h : Par ps q K) (hq : q = q') (hk : K ≤ K') : Par ps q' K' := by
  subst hq
  intro m hm
  obtain ⟨a, b, c⟩ := h m hm
  exact ⟨a, by omega, c⟩
theorem bit_shr (a i : Nat) : ((a / 2 ^ i : Nat) : Int) % 2 = if a.testBit i then 1 else 0 := by
  rw [Nat.testBit_eq_decide_div_mod_eq]
  by_cases h : a / 2 ^ i % 2 = 1
  · simp only [h, decide_true, if_true]; omega
  · simp only [h, decide_false, Bool.false_eq_true, if_false]; omega

theorem bit_val (a i : Nat) (ha : a < 256) : (wrap64 ((a : Int) / 2 ^ i)).tmod 2 = if a.testBit i then 1 else 0 := by
  have e : (a : Int) / 2 ^ i = ((a / 2 ^ i : Nat) : Int) := by simp
  have hle : a / 2 ^ i ≤ a := Nat.div_le_self _ _
  have hb := bit_shr a i
  rw [e]
  generalize a / 2 ^ i = q at *
  rw [IntWalk.wrap64_in _ (by omega), Int.tmod_eq_emod_of_nonneg (by omega), hb]
theorem prod_val (x y : Bool) : wrap64 ((if x then 1 else 0) * (if y then 1 else 0)) = if (x && y) then 1 else 0 := by cases x <;> cases y <;> simp [wrap64]

theorem low_yes (q j y : Nat) (hy : y = q % 2 ^ j) (hj : j < 8) (h : q.testBit j = true) : wrap64 ((y : Int) + wrap64 (2 ^ j)) = ((y + 2 ^ j : Nat) : Int) ∧ y + 2 ^ j = q % 2 ^ (j + 1) ∧ y + 2 ^ j < 256 := by
  have h1 : q % 2 ^ (j + 1) = y + 2 ^ j := by
    rw [Nat.testBit_eq_decide_div_mod_eq, decide_eq_true_eq] at h
    rw [Nat.mod_pow_succ, h, ← hy]; simp
  have h2 : q % 2 ^ (j + 1) < 2 ^ (j + 1) := Nat.mod_lt _ (Nat.two_pow_pos _)
  have h3 : 2 ^ (j + 1) ≤ 2 ^ 8 := Nat.pow_le_pow_right (by omega) (by omega)
  have e : (2 : Int) ^ j = ((2 ^ j : Nat) : Int) := by simp
  rw [e]
  generalize 2 ^ j = p at *
  refine ⟨?_, h1.symm, by omega⟩
  rw [IntWalk.wrap64_in (p : Int) (by omega), IntWalk.wrap64_in _ (by omega)]
  omega
theorem low_no (q j y : Nat) (hy : y = q % 2 ^ j) (h : ¬q.testBit j = true) : y = q % 2 ^ (j + 1) := by
  rw [Nat.testBit_eq_decide_div_mod_eq, decide_eq_true_eq] at h
  rw [Nat.mod_pow_succ, show q / 2 ^ j % 2 = 0 by omega, ← hy]; simp

set_option maxHeartbeats 2000000 in
set_option maxRecDepth 100000 in
theorem rmul_any (a b : Nat) (w : World) (ha : a < 256) (hb : b < 256) : Calls Try.prog 10 #[.int .u8 a, .int .u8 b] w fun e w' => e = .returned (.int .u8 (rm a b)) ∧ Below w.heap.size w w' := by
  go_enter Try.func10, Try.ntmps10
  go_wp2
  have harr : Arr (w.alloc (.cells #[.int .i64 0, .int .i64 0, .int .i64 0, .int .i64 0, .int .i64 0, .int .i64 0, .int .i64 0, .int .i64 0, .int .i64 0, .int .i64 0, .int .i64 0, .int .i64 0, .int .i64 0, .int .i64 0, .int .i64 0] 34)) w.heap.size (List.replicate 15 0) := ⟨rfl, Blk.new w 34 _⟩
  have hbel : Below w.heap.size w (w.alloc (.cells #[.int .i64 0, .int .i64 0, .int .i64 0, .int .i64 0, .int .i64 0, .int .i64 0, .int .i64 0, .int .i64 0, .int .i64 0, .int .i64 0, .int .i64 0, .int .i64 0, .int .i64 0, .int .i64 0, .int .i64 0] 34)) := (Below.refl _ _).alloc (Nat.le_refl _) _
  generalize w.alloc (.cells #[.int .i64 0, .int .i64 0, .int .i64 0, .int .i64 0, .int .i64 0, .int .i64 0, .int .i64 0, .int .i64 0, .int .i64 0, .int .i64 0, .int .i64 0, .int .i64 0, .int .i64 0, .int .i64 0, .int .i64 0] 34) = w0 at *
  obtain ⟨g, hg⟩ : ∃ g, w.heap.size = g := ⟨_, rfl⟩
  have hB : Below g w w0 := hg ▸ hbel
  have harr' : Arr w0 g (List.replicate 15 0) := hg ▸ harr
  rw [hg]
  have HG := Lib.hid hg
  clear hbel harr hg
  go_loopw [6] (fun i wr => ∃ (n : Nat) (ps : List Int), n ≤ 8 ∧ i = .int .i64 n ∧ Arr wr g ps ∧ Par ps (rpol a b n) (8 * n) ∧ Below g w wr) (fun i _ => 8 - (intOf i).toNat)
  case atStart => exact ⟨0, _, by omega, rfl, harr', Par.zero, hB⟩
  case round =>
    clear harr' hB
    obtain ⟨n, ps, hn, rfl, harr, hpar, hb0⟩ := hrel
    by_cases hlt : n < 8
    · obtain ⟨wo, rfl⟩ : ∃ wo : World, wo = wr := ⟨_, rfl⟩
      go_wp2
      go_loopw [7] (fun k wr => ∃ (m : Nat) (ps : List Int), m ≤ 8 ∧ k = .int .i64 m ∧ Arr wr g ps ∧ Par ps (rpol a b n ^^^ rrow (a.testBit n) b n m) (8 * n + m) ∧ Below g w wr) (fun k _ => 8 - (intOf k).toNat)
      case atStart => exact ⟨0, _, by omega, rfl, harr, hpar.eq (by simp [rrow]) (by simp), hb0⟩
      case round =>
        clear harr hpar hb0
        obtain ⟨m, ps, hm, rfl, harr, hpar, hb1⟩ := hrel
        by_cases hlt2 : m < 8
        · have hc := harr.cell (show n + m < 15 by omega)
          have hf := Blk.frozen harr.2 (n + m)
          have hpm := hpar (n + m) (by omega)
          obtain ⟨z, hzd⟩ : ∃ z, ps.getD (n + m) 0 = z := ⟨_, rfl⟩
          rw [hzd] at hc hpm
          have HD := Lib.hid hzd
          clear hzd
          obtain ⟨hz0, hz1, hz2⟩ := hpm
          have HZ := Lib.hid hz2
          have HA := Lib.hid harr
          have HP := Lib.hid hpar
          have HB := Lib.hid hb1
          clear hz2 harr hpar hb1
          go_wp2
          go_roundw
          case rel =>
            obtain ⟨v, hv, hv0, hv1⟩ : ∃ v : Int, (if (a.testBit n && b.testBit m) then (1 : Int) else 0) = v ∧ 0 ≤ v ∧ v ≤ 1 := ⟨_, rfl, by split <;> omega, by split <;> omega⟩
            have e : wrap64 (z + wrap64 ((wrap64 ((a : Int) / 2 ^ n)).tmod 2 * (wrap64 ((b : Int) / 2 ^ m)).tmod 2)) = z + v := by
              rw [bit_val a n ha, bit_val b m hb, prod_val, hv]
              exact IntWalk.wrap64_in _ (by omega)
            rw [e]
            have hp := Par.add (x := a.testBit n && b.testBit m) HA.out.1 HP.out (show n + m < 15 by omega) hv.symm
            rw [HD.out] at hp
            exact ⟨m + 1, _, by omega, by go_num, HA.out.set (z + v), hp.eq (by rw [Nat.xor_assoc]; rfl) (by omega), HB.out.setCell (by simp) _⟩
          case measure => simp [intOf]; omega
        · obtain rfl : m = 8 := by omega
          have HA := Lib.hid harr
          have HP := Lib.hid (hpar.eq (q' := rpol a b (n + 1)) (K' := 8 * ((n + 1 : Nat) : Int)) (by rw [rrow_8 _ _ _ hb hlt]; rfl) (by omega))
          have HB := Lib.hid hb1
          clear harr hpar hb1
          go_wp2
          go_roundw
          case rel => exact ⟨n + 1, ps, by omega, by go_num, HA.out, HP.out, HB.out⟩
          case measure => simp [intOf]; omega
    · obtain rfl : n = 8 := by omega
      have HA := Lib.hid harr
      have HP := Lib.hid hpar
      have HB := Lib.hid hb0
      clear harr hpar hb0
      go_wp2
      go_loopw [8] (fun i wr => ∃ (k : Nat) (ps : List Int), 7 ≤ k ∧ k ≤ 14 ∧ i = .int .i64 k ∧ Arr wr g ps ∧ Par ps (rred (rpol a b 8) (14 - k)) (64 + 4 * (14 - k)) ∧ Below g w wr) (fun i _ => (intOf i).toNat)
      case atStart => exact ⟨14, _, by omega, by omega, rfl, HA.out, HP.out.eq rfl (by simp), HB.out⟩
      case round =>
        clear HA HP HB
        obtain ⟨k, ps, hk7, hk14, rfl, harr, hpar, hb0⟩ := hrel
        have HA := Lib.hid harr
        have HP := Lib.hid hpar
        have HB := Lib.hid hb0
        clear harr hpar hb0
        by_cases hlt : 8 ≤ k
        · have hc := HA.out.cell (show k < 15 by omega)
          have hpm := HP.out k (by omega)
          obtain ⟨z, hzd⟩ : ∃ z, ps.getD k 0 = z := ⟨_, rfl⟩
          rw [hzd] at hc hpm
          clear hzd
          obtain ⟨hz0, hz1, hz2⟩ := hpm
          by_cases hq : (rred (rpol a b 8) (14 - k)).testBit k = true
          · have hz3 : z % 2 = 1 := by rw [hz2]; simp [hq]
            clear hz2
            have HQ := Lib.hid hq
            clear hq
            obtain ⟨z1, hd1⟩ : ∃ z, ps.getD (k - 4) 0 = z := ⟨_, rfl⟩
            obtain ⟨z2, hd2⟩ : ∃ z, ps.getD (k - 5) 0 = z := ⟨_, rfl⟩
            obtain ⟨z3, hd3⟩ : ∃ z, ps.getD (k - 7) 0 = z := ⟨_, rfl⟩
            obtain ⟨z4, hd4⟩ : ∃ z, ps.getD (k - 8) 0 = z := ⟨_, rfl⟩
            have hc1 := HA.out.cell (show k - 4 < 15 by omega)
            have hc2 := HA.out.cell (show k - 5 < 15 by omega)
            have hc3 := HA.out.cell (show k - 7 < 15 by omega)
            have hc4 := HA.out.cell (show k - 8 < 15 by omega)
            obtain ⟨b1, b1', -⟩ := HP.out (k - 4) (by omega)
            obtain ⟨b2, b2', -⟩ := HP.out (k - 5) (by omega)
            obtain ⟨b3, b3', -⟩ := HP.out (k - 7) (by omega)
            obtain ⟨b4, b4', -⟩ := HP.out (k - 8) (by omega)
            rw [hd1] at hc1 b1 b1'
            rw [hd2] at hc2 b2 b2'
            rw [hd3] at hc3 b3 b3'
            rw [hd4] at hc4 b4 b4'
            have hf1 := Blk.frozen HA.out.2 (k - 4)
            have hf2 := Blk.frozen HA.out.2 (k - 5)
            have hf3 := Blk.frozen HA.out.2 (k - 7)
            have hf4 := Blk.frozen HA.out.2 (k - 8)
            have HD1 := Lib.hid hd1
            have HD2 := Lib.hid hd2
            have HD3 := Lib.hid hd3
            have HD4 := Lib.hid hd4
            clear hd1 hd2 hd3 hd4
            go_wp2
            go_roundw
            case rel =>
              have p1 := Par.add (x := true) (v := 1) HA.out.1 HP.out (show k - 4 < 15 by omega) rfl
              have p2 := Par.add (x := true) (v := 1) (by simp [HA.out.1]) p1 (show k - 5 < 15 by omega) rfl
              have p3 := Par.add (x := true) (v := 1) (by simp [HA.out.1]) p2 (show k - 7 < 15 by omega) rfl
              have p4 := Par.add (x := true) (v := 1) (by simp [HA.out.1]) p3 (show k - 8 < 15 by omega) rfl
              have g2 : (ps.set (k - 4) (ps.getD (k - 4) 0 + 1)).getD (k - 5) 0 = z2 := by rw [← HD2.out]; simp [List.getD, List.getElem?_set_ne (show k - 4 ≠ k - 5 by omega)]
              rw [g2] at p2 p3 p4
              have g3 : ((ps.set (k - 4) (ps.getD (k - 4) 0 + 1)).set (k - 5) (z2 + 1)).getD (k - 7) 0 = z3 := by rw [← HD3.out]; simp [List.getD, List.getElem?_set_ne (show k - 4 ≠ k - 7 by omega), List.getElem?_set_ne (show k - 5 ≠ k - 7 by omega)]
              rw [g3] at p3 p4
              have g4 : (((ps.set (k - 4) (ps.getD (k - 4) 0 + 1)).set (k - 5) (z2 + 1)).set (k - 7) (z3 + 1)).getD (k - 8) 0 = z4 := by rw [← HD4.out]; simp [List.getD, List.getElem?_set_ne (show k - 4 ≠ k - 8 by omega), List.getElem?_set_ne (show k - 5 ≠ k - 8 by omega), List.getElem?_set_ne (show k - 7 ≠ k - 8 by omega)]
              rw [g4] at p4
              rw [HD1.out] at p4
              refine ⟨k - 1, _, by omega, by omega, by first | go_num | (congr 1; omega), (((HA.out.set (m := k - 4) (z1 + 1)).set (m := k - 5) (z2 + 1)).set (m := k - 7) (z3 + 1)).set (m := k - 8) (z4 + 1), p4.eq ?_ (by omega), (((HB.out.setCell (p := ⟨g, k - 4, none⟩) (by simp) _).setCell (p := ⟨g, k - 5, none⟩) (by simp) _).setCell (p := ⟨g, k - 7, none⟩) (by simp) _).setCell (p := ⟨g, k - 8, none⟩) (by simp) _⟩
              rw [show 14 - (k - 1) = (14 - k) + 1 by omega]
              simp only [rred, rstep, if_true]
              rw [show 14 - (14 - k) = k by omega, if_pos HQ.out]
              simp only [Nat.xor_assoc]
            case measure => simp [intOf]; omega
          · have hz3 : z % 2 = 0 := by rw [hz2]; simp [hq]
            clear hz2
            have HQ := Lib.hid hq
            clear hq
            go_wp2
            go_roundw
            case rel =>
              refine ⟨k - 1, ps, by omega, by omega, by first | go_num | (congr 1; omega), HA.out, HP.out.eq ?_ (by omega), HB.out⟩
              rw [show 14 - (k - 1) = (14 - k) + 1 by omega]
              simp only [rred, rstep]
              rw [show 14 - (14 - k) = k by omega, if_neg HQ.out]
            case measure => simp [intOf]; omega
        · obtain rfl : k = 7 := by omega
          go_wp2
          go_loop [9, 10] (fun x i => ∃ (j : Nat) (y : Nat), j ≤ 8 ∧ i = .int .i64 j ∧ y = rred (rpol a b 8) 7 % 2 ^ j ∧ y < 256 ∧ x = .int .i64 (y : Nat)) (fun _ i => 8 - (intOf i).toNat)
          case atStart => exact ⟨0, 0, by omega, rfl, by simp [Nat.mod_one], by omega, rfl⟩
          case round =>
            obtain ⟨j, y, hj, rfl, hy, hy2, rfl⟩ := hrel
            have HY := Lib.hid hy
            clear hy
            by_cases hlt : j < 8
            · have hc := HA.out.cell (show j < 15 by omega)
              have hpm := HP.out j (by omega)
              obtain ⟨z, hzd⟩ : ∃ z, ps.getD j 0 = z := ⟨_, rfl⟩
              rw [hzd] at hc hpm
              clear hzd
              obtain ⟨hz0, hz1, hz2⟩ := hpm
              by_cases hq : (rred (rpol a b 8) (14 - 7)).testBit j = true
              · have hz3 : z % 2 = 1 := by rw [hz2]; simp [hq]
                clear hz2
                have HQ := Lib.hid hq
                clear hq
                go_wp2
                go_round
                case rel =>
                  obtain ⟨e1, e2, e3⟩ := low_yes _ j y HY.out hlt HQ.out
                  exact ⟨j + 1, y + 2 ^ j, by omega, by go_num, e2, e3, by rw [e1]⟩
                case measure => simp [intOf]; omega
              · have hz3 : z % 2 = 0 := by rw [hz2]; simp [hq]
                clear hz2
                have HQ := Lib.hid hq
                clear hq
                go_wp2
                go_round
                case rel => exact ⟨j + 1, y, by omega, by go_num, low_no _ j y HY.out HQ.out, hy2, rfl⟩
                case measure => simp [intOf]; omega
            · obtain rfl : j = 8 := by omega
              go_wp2
              go_ret
              refine ⟨ret_int ?_, HG.out.symm ▸ HB.out⟩
              have := HY.out
              unfold rm
              rw [← this]

/-! ### powers and inverses -/
theorem neg_pos_int (n : Nat) : -(-(n : Int)) = n := by omega
set_option maxHeartbeats 1000000 in
theorem power_any (a n : Nat) (w : World) (ha : a < 256) (hn : n ≤ 100000) : Calls Try.prog 14 #[.int .u8 a, .int .i64 n] w fun e w' => e = .returned (.int .u8 (pw a n)) ∧ w = w' := by
  go_enter Try.func14, Try.ntmps14
  go_wp2_with fail
  go_loop [0, 1, 5] (fun x y o => ∃ a' n' r : Nat, a' < 256 ∧ n' ≤ 100000 ∧ r < 256 ∧ gm r (pw a' n') = pw a n ∧ x = .int .u8 a' ∧ y = .int .i64 n' ∧ o = .int .u8 r) (fun _ y _ => (intOf y).toNat)
  case atStart => exact ⟨a, n, 1, ha, by omega, by omega, gm_one_left _ (pw_lt a n ha), rfl, rfl, rfl⟩
  case round =>
    obtain ⟨a', n', r, ha', hn', hr, hg, rfl, rfl, rfl⟩ := hrel
    by_cases h0 : n' = 0
    · subst h0
      have HG := Lib.hid hg
      clear hg
      go_wp2_with fail
      go_ret
      exact ⟨ret_int (by have := HG.out; rw [show pw a' 0 = 1 from rfl, gm_one _ hr] at this; rw [this]), rfl⟩
    · have h0' : 0 < n' := by omega
      have e0 := i64_and_nat n' 1 (by omega) (by omega)
      rw [show ((1 : Nat) : Int) = 1 from rfl, nat_mask1] at e0
      by_cases h1 : n' % 2 = 1
      · have e1 : bits .and .i64 (n' : Int) 1 = 1 := by rw [e0, h1]; rfl
        have hg' : gm (gm r a') (pw (gm a' a') (n' / 2)) = pw a n := by
          rw [← hg, gm_assoc _ _ _ hr ha' (pw_lt _ _ (gm_lt _ _ ha')), pw_two _ _ ha']
          congr 1
          rw [show n' = 1 + (n' / 2 + n' / 2) by omega, pw_add _ 1 _ ha', pw_one _ ha']
          congr 2
          omega
        have HG := Lib.hid hg'
        clear hg hg' e0 h1 h0
        go_wp2_with (first | (go_at_call 9; ((with_reducible refine (mul_any r a' _ hr ha').mono ?_); rintro e w1 ⟨rfl, rfl⟩)) | (go_at_call 9; ((with_reducible refine (mul_any a' a' _ ha' ha').mono ?_); rintro e w1 ⟨rfl, rfl⟩)))
        go_round
        case rel => exact ⟨gm a' a', n' / 2, gm r a', gm_lt _ _ ha', by omega, gm_lt _ _ hr, HG.out, rfl, by first | rfl | go_num, rfl⟩
        case measure => simp [intOf]; omega
      · have e1 : bits .and .i64 (n' : Int) 1 = 0 := by rw [e0, show n' % 2 = 0 by omega]; rfl
        have hg' : gm r (pw (gm a' a') (n' / 2)) = pw a n := by
          rw [← hg, pw_two _ _ ha']
          congr 2
          omega
        have HG := Lib.hid hg'
        clear hg hg' e0 h1 h0
        go_wp2_with (go_at_call 9; ((with_reducible refine (mul_any a' a' _ ha' ha').mono ?_); rintro e w1 ⟨rfl, rfl⟩))
        go_round
        case rel => exact ⟨gm a' a', n' / 2, r, gm_lt _ _ ha', by omega, hr, HG.out, rfl, by first | rfl | go_num, rfl⟩
        case measure => simp [intOf]; omega
theorem inverse_any (a : Nat) (w : World) (ha : a < 256) : Calls Try.prog 12 #[.int .u8 a] w fun e w' => e = .returned (.int .u8 (inv a)) ∧ w = w' := by
  go_enter Try.func12, Try.ntmps12
  go_wp2_with (go_at_call 14; refine (power_any a 254 _ ha (by omega)).mono ?_; rintro e w1 ⟨rfl, rfl⟩)
  go_ret
  exact ⟨ret_int (by rw [inv_eq]), rfl⟩
theorem power_neg (a n : Nat) (w : World) (ha : a < 256) (hn0 : 0 < n) (hn : n ≤ 100000) : Calls Try.prog 14 #[.int .u8 a, .int .i64 (-n)] w fun e w' => e = .returned (.int .u8 (pw (inv a) n)) ∧ w = w' := by
  have e1 := neg_pos_int n
  go_enter Try.func14, Try.ntmps14
  go_wp2_with (first | (go_at_call 12; refine (inverse_any a _ ha).mono ?_; rintro e w1 ⟨rfl, rfl⟩) | (go_at_call 14; refine (power_any (inv a) n _ (inv_lt a ha) (by omega)).mono ?_; rintro e w1 ⟨rfl, rfl⟩))
  go_ret
  exact ⟨rfl, rfl⟩
set_option maxHeartbeats 1000000 in
theorem rpower_any (a n : Nat) (w : World) (ha : a < 256) (hn : n ≤ 100000) : Calls Try.prog 15 #[.int .u8 a, .int .i64 n] w fun e w' => e = .returned (.int .u8 (pw a n)) ∧ Below w.heap.size w w' := by
  go_enter Try.func15, Try.ntmps15
  go_wp2_with fail
  go_loopw [5, 6] (fun x i wr => ∃ j : Nat, j ≤ n ∧ i = .int .i64 j ∧ x = .int .u8 (pw a j) ∧ Below w.heap.size w wr) (fun _ i _ => n - (intOf i).toNat)
  case atStart => exact ⟨0, by omega, rfl, rfl, Below.refl _ _⟩
  case round =>
    obtain ⟨j, hj, rfl, rfl, hb⟩ := hrel
    by_cases hlt : j < n
    · have hp := pw_lt a j ha
      go_wp2_with (go_at_call 10; refine (rmul_any (pw a j) a _ hp ha).mono ?_; rintro e w1 ⟨rfl, hb1⟩)
      go_roundw
      case rel => exact ⟨j + 1, by omega, by go_num, by rw [rm_gm _ _ hp ha]; rfl, hb.trans (hb1.mono hb.size)⟩
      case measure => simp [intOf]; omega
    · obtain rfl : j = n := by omega
      go_wp2_with fail
      go_ret
      exact ⟨rfl, hb⟩
set_option maxRecDepth 10000 in
set_option maxHeartbeats 1000000 in
theorem rinverse_any (a : Nat) (w : World) (ha : a < 256) : Calls Try.prog 13 #[.int .u8 a] w fun e w' => e = .returned (.int .u8 (inv a)) ∧ Below w.heap.size w w' := by
  go_enter Try.func13, Try.ntmps13
  go_wp2_with fail
  go_loopw [3] (fun i wr => ∃ j : Nat, j ≤ 256 ∧ (a ≠ 0 → j ≤ inv a) ∧ i = .int .i64 j ∧ Below w.heap.size w wr) (fun i _ => 256 - (intOf i).toNat)
  case atStart => exact ⟨0, by omega, fun _ => by omega, rfl, Below.refl _ _⟩
  case round =>
    obtain ⟨j, hj, hji, rfl, hb⟩ := hrel
    have HJ := Lib.hid hji
    clear hji
    by_cases hlt : j < 256
    · go_wp2_with fail
      refine (rmul_any a j _ ha hlt).mono ?_
      rintro e w1 ⟨rfl, hb1⟩
      have hb2 := hb.trans (hb1.mono hb.size)
      by_cases h1 : gm a j = 1
      · have e1 : rm a j = 1 := by rw [rm_gm _ _ ha hlt, h1]
        have hji : j = inv a := inv_of a j ha hlt h1
        have HJI := Lib.hid hji
        clear hji h1
        go_wp2_with fail
        go_ret
        exact ⟨ret_int (by have := HJI.out; omega), hb2⟩
      · have e1 : ((rm a j : Nat) : Int) ≠ 1 := by rw [rm_gm _ _ ha hlt]; omega
        have e2 : (((rm a j : Nat) : Int) == 1) = false := by simp; omega
        have H1 := Lib.hid h1
        clear h1
        go_wp2_with fail
        go_roundw
        case rel =>
          refine ⟨j + 1, by omega, fun h0 => ?_, by go_num, hb2⟩
          have h2 := HJ.out h0
          rcases Nat.lt_or_ge j (inv a) with h3 | h3
          · omega
          · have : j = inv a := by omega
            subst this
            exact absurd (gm_inv a ha h0) H1.out
        case measure => simp [intOf]; omega
    · have ha0 : a = 0 := by
        rcases Nat.eq_zero_or_pos a with h | h
        · exact h
        · have := HJ.out (by omega); have := inv_lt a ha; omega
      have HA0 := Lib.hid ha0
      clear ha0
      go_wp2_with fail
      go_ret
      exact ⟨ret_int (by rw [HA0.out, inv_zero]; rfl), hb⟩
end Go.Proofs.Ytbmbclocmhhhdaa
