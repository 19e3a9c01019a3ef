import Derived.Test.YtmopabmpbeoppaaEcho
namespace Go.Proofs.Ytmopabmpbeoppaa
open Go.ChangeShapes Go.WideShapes Go.ChangeAt Go.RowKit
set_option linter.unusedVariables false
set_option linter.unusedSimpArgs false
theorem Rt.drewN {w : World} {b : Nat} {l n e : Int} (h : Rt w b l n e) (k : Nat) : Rt (w.drewN k) b l n e := h
theorem Ints.drewN {k : IntKind} {w : World} {a : Option Addr} {len cap : Nat} {zs : List Int} (h : Ints k w a len cap zs) (n : Nat) : Ints k (w.drewN n) a len cap zs := h
theorem est_in {zs : List Int} {A : Option Addr} {len cap : Nat} {w : World} (h : Ints .u16 w A len cap zs) (k : Nat) : 0 ≤ est (zs.take k) 0 0 ∧ est (zs.take k) 0 0 ≤ 524287 :=
  est_bound _ (fun s hs => bounds_u16 (h.2.2.1 s (List.mem_of_mem_take hs))) 0 0 (by omega) (by omega) (by omega)

set_option maxRecDepth 100000 in
set_option maxHeartbeats 2000000 in
theorem samples_any (A : Option Addr) (len cap : Nat) (zs : List Int) (w : World) (hz : Ints .u16 w A len cap zs) (hcap : cap ≤ maxLen) :
    Calls Try.prog 5 #[.slice A len cap] w fun e w' => e = .returned (.bool true) ∧ Below w.heap.size w w' := by
  unfold maxLen at hcap
  have hlc := hz.2.1
  by_cases hl : 300 < len
  · go_enter Try.func5, Try.ntmps5
    go_wp2_with fail
    refine (awake_any _).mono ?_
    rintro e w1 ⟨rfl, hb1⟩
    go_wp2_with fail
    refine (awake_any _).mono ?_
    rintro e w2 ⟨rfl, hb2⟩
    go_wp2_with fail
    go_ret
    exact ⟨rfl, hb1.trans (hb2.mono hb1.size)⟩
  · have HZ := Lib.hid hz
    clear hz
    go_enter Try.func5, Try.ntmps5
    go_wp2_with fail
    refine (awake_any _).mono ?_
    rintro e w1 ⟨rfl, hb1⟩
    go_wp2_with fail
    have hr0 : Rt (w1.alloc (.cells #[.int .u16 0, .int .i64 0, .int .u32 0] 46)) w1.heap.size 0 0 0 := Blk.new _ _ _
    have hbr0 := hb1.alloc hb1.size (.cells #[.int .u16 0, .int .i64 0, .int .u32 0] 46)
    have s1 := hb1.size
    clear hb1
    generalize w1.alloc (.cells #[.int .u16 0, .int .i64 0, .int .u32 0] 46) = w2 at *
    generalize w1.heap.size = b at *
    go_loopw [4] (fun i wr => ∃ (j : Nat) (la : Int), j ≤ len ∧ i = .int .i64 j ∧ (j = 0 → la = 0) ∧ Rt wr b la j (est (zs.take j) 0 0) ∧ Below w.heap.size w wr) (fun i _ => len - (intOf i).toNat)
    case atStart => exact ⟨0, 0, by omega, rfl, fun _ => rfl, hr0, hbr0⟩
    case round =>
      clear hr0 hbr0
      obtain ⟨j, la, hj, rfl, hla, hr, hb⟩ := hrel
      have HR := Lib.hid hr
      have HB := Lib.hid hb
      have HLA := Lib.hid hla
      clear hr hb hla
      have hel := est_in HZ.out j
      obtain ⟨y, hy⟩ : ∃ y, est (zs.take j) 0 0 = y := ⟨_, rfl⟩
      rw [hy] at hel
      have HY := Lib.hid hy
      clear hy
      by_cases hlt : j < len
      · have hstep := est_take (l := zs) (k := j) (by have := HZ.out.1; omega)
        obtain ⟨ba, off, rfl, hlba, hcell⟩ := HZ.out.2.2.2 (by omega)
        have hcj := hcell j hlt
        have hsb : 0 ≤ zs.getD j 0 ∧ zs.getD j 0 ≤ 65535 := by
          have hl' := HZ.out.1
          have : zs.getD j 0 ∈ zs := by rw [List.getD, List.getElem?_eq_getElem (by omega)]; simp
          exact bounds_u16 (HZ.out.2.2.1 _ this)
        clear hcell
        rw [HY.out] at hstep
        generalize zs.getD j 0 = s at *
        have hcw := (HB.out.cell (p := ⟨ba, off + j, none⟩) hlba).trans hcj
        have HST := Lib.hid hstep
        clear hcj hstep
        by_cases h0 : j = 0
        · have HR1 := Lib.hid (HR.out.eq (show (j : Int) = 0 by omega) rfl)
          have H0 := Lib.hid h0
          clear h0
          go_wp2_with fail
          refine (radd_first _ _ _ _ _ HR1.out hsb.1 hsb.2).mono ?_
          rintro e w6 ⟨rfl, hr6, hg6⟩
          have hb6 := below_only HB.out hg6 HB.out.size s1
          have hcw6 := (hb6.cell (p := ⟨ba, off + j, none⟩) hlba).trans ((HB.out.cell (p := ⟨ba, off + j, none⟩) hlba).symm.trans hcw)
          have HR6 := Lib.hid (hr6.eq (show (1 : Int) = (j : Int) + 1 by have := H0.out; omega) rfl)
          have HB6 := Lib.hid hb6
          clear hr6 hb6 hcw
          go_wp2_with (first | (go_at_call 16; refine (rlast_any _ _ _ _ _ HR6.out).mono ?_; rintro e w7 ⟨rfl, kk, rfl⟩) | (go_at_call 17; refine (rcount_any _ _ _ _ _ (HR6.out.drewN _)).mono ?_; rintro e w8 ⟨rfl, rfl⟩))
          go_roundw
          case rel => exact ⟨j + 1, s, by omega, by go_num, fun h => absurd h (by omega), Blk.drewN (HR6.out.eq (by omega) (by rw [HST.out, nxt, if_pos (by have := H0.out; omega)])) _, below_drewN HB6.out _⟩
          case measure => simp [intOf]; omega
        · have hr1 := HR.out
          rw [HY.out] at hr1
          have HR1 := Lib.hid hr1
          clear hr1
          go_wp2_with fail
          refine (radd_next _ _ _ _ _ _ HR1.out (by omega) (by omega) hel.1 hel.2 hsb.1 hsb.2).mono ?_
          rintro e w6 ⟨rfl, hr6, hg6⟩
          have hb6 := below_only HB.out hg6 HB.out.size s1
          have hcw6 := (hb6.cell (p := ⟨ba, off + j, none⟩) hlba).trans ((HB.out.cell (p := ⟨ba, off + j, none⟩) hlba).symm.trans hcw)
          have HR6 := Lib.hid hr6
          have HB6 := Lib.hid hb6
          clear hr6 hb6 hcw
          go_wp2_with (first | (go_at_call 16; refine (rlast_any _ _ _ _ _ HR6.out).mono ?_; rintro e w7 ⟨rfl, kk, rfl⟩) | (go_at_call 17; refine (rcount_any _ _ _ _ _ (HR6.out.drewN _)).mono ?_; rintro e w8 ⟨rfl, rfl⟩))
          go_roundw
          case rel => exact ⟨j + 1, s, by omega, by go_num, fun h => absurd h (by omega), Blk.drewN (HR6.out.eq (by omega) (by rw [HST.out, nxt, if_neg (by omega)])) _, below_drewN HB6.out _⟩
          case measure => simp [intOf]; omega
      · obtain rfl : j = len := by omega
        have hz2 := HZ.out.below (HB.out.mono (Nat.le_refl _))
        have HZ2 := Lib.hid hz2
        clear hz2
        have hyl : y = est zs 0 0 := by rw [← HY.out, List.take_of_length_le (by have := HZ.out.1; omega)]
        subst hyl
        have hr1 := HR.out
        rw [HY.out] at hr1
        have HR1 := Lib.hid hr1
        clear hr1
        by_cases h0 : j = 0
        · have hla0 := HLA.out h0
          subst hla0
          have hz0 : (j : Int) ≤ 0 := by omega
          have hd0 : decide ((0 : Int) < (j : Int)) = false := by simp; omega
          clear h0
          go_wp2_with (first | (go_at_call 16; ((with_reducible refine (rlast_any b _ _ _ _ HR1.out).mono ?_); rintro e w7 ⟨rfl, kk, rfl⟩)) | (go_at_call 15; refine (radd_nil _ _).mono ?_; rintro e w8 ⟨rfl, rfl⟩) | (go_at_call 16; refine (rlast_nil _).mono ?_; rintro e w8 ⟨rfl, rfl⟩) | (go_at_call 17; refine (rcount_nil _).mono ?_; rintro e w8 ⟨rfl, rfl⟩) | (go_at_call 18; ((with_reducible refine (rest_any b _ _ _ _ (HR1.out.drewN _)).mono ?_); rintro e w8 ⟨rfl, rfl⟩)) | (go_at_call 18; refine (rest_nil _).mono ?_; rintro e w8 ⟨rfl, rfl⟩) | (go_at_call 19; ((with_reducible refine (resti_any _ _ _ _ _ (Ints.drewN HZ2.out _) (by omega)).mono ?_); rintro e w8 ⟨rfl, rfl⟩)))
          go_ret
          exact ⟨ret_true (by simp), below_drewN HB.out _⟩
        · have hpos : (0 : Int) < (j : Int) := by omega
          go_wp2_with (first | (go_at_call 16; ((with_reducible refine (rlast_any b _ _ _ _ HR1.out).mono ?_); rintro e w7 ⟨rfl, kk, rfl⟩)) | (go_at_call 15; refine (radd_nil _ _).mono ?_; rintro e w8 ⟨rfl, rfl⟩) | (go_at_call 16; refine (rlast_nil _).mono ?_; rintro e w8 ⟨rfl, rfl⟩) | (go_at_call 17; refine (rcount_nil _).mono ?_; rintro e w8 ⟨rfl, rfl⟩) | (go_at_call 18; ((with_reducible refine (rest_any b _ _ _ _ (HR1.out.drewN _)).mono ?_); rintro e w8 ⟨rfl, rfl⟩)) | (go_at_call 18; refine (rest_nil _).mono ?_; rintro e w8 ⟨rfl, rfl⟩) | (go_at_call 19; ((with_reducible refine (resti_any _ _ _ _ _ (Ints.drewN HZ2.out _) (by omega)).mono ?_); rintro e w8 ⟨rfl, rfl⟩)))
          go_ret
          exact ⟨ret_true (by simp), below_drewN HB.out _⟩

theorem ech_in (s h : Int) (h0 : 0 ≤ s) (h9 : s ≤ 65535) (hh : 0 ≤ h) : 0 ≤ ech s h ∧ ech s h ≤ 65535 := by unfold ech; split <;> omega
theorem nxt_bounds (n e s lo hi : Int) (h1 : lo ≤ s) (h2 : s ≤ hi) (h3 : n ≠ 0 → 8 * lo - 7 ≤ e ∧ e ≤ 8 * hi + 7) : 8 * lo - 7 ≤ nxt n e s ∧ nxt n e s ≤ 8 * hi + 7 := by
  unfold nxt
  by_cases h : n = 0
  · rw [if_pos h]; omega
  · rw [if_neg h]
    have := h3 h
    omega
set_option maxRecDepth 100000 in
set_option maxHeartbeats 2000000 in
theorem bounds_any (A : Option Addr) (len cap : Nat) (zs : List Int) (w : World) (hz : Ints .u16 w A len cap zs) (hcap : cap ≤ maxLen) :
    Calls Try.prog 6 #[.slice A len cap] w fun e w' => e = .returned (.bool true) ∧ Below w.heap.size w w' := by
  unfold maxLen at hcap
  have hlc := hz.2.1
  by_cases hl : len < 1
  · go_enter Try.func6, Try.ntmps6
    go_wp2_with fail
    refine (awake_any _).mono ?_
    rintro e w1 ⟨rfl, hb1⟩
    go_wp2_with fail
    refine (awake_any _).mono ?_
    rintro e w2 ⟨rfl, hb2⟩
    go_wp2_with fail
    go_ret
    exact ⟨rfl, hb1.trans (hb2.mono hb1.size)⟩
  · have hpos : 0 < len := by omega
    by_cases hl : 300 < len
    · go_enter Try.func6, Try.ntmps6
      go_wp2_with fail
      refine (awake_any _).mono ?_
      rintro e w1 ⟨rfl, hb1⟩
      go_wp2_with fail
      refine (awake_any _).mono ?_
      rintro e w2 ⟨rfl, hb2⟩
      go_wp2_with fail
      go_ret
      exact ⟨rfl, hb1.trans (hb2.mono hb1.size)⟩
    · have HZ := Lib.hid hz
      clear hz
      obtain ⟨ba, off, rfl, hlba, hcell0⟩ := HZ.out.2.2.2 (by omega)
      have hc0 := hcell0 0 (by omega)
      have hs0 : 0 ≤ zs.getD 0 0 ∧ zs.getD 0 0 ≤ 65535 := by
        have hl' := HZ.out.1
        have : zs.getD 0 0 ∈ zs := by rw [List.getD, List.getElem?_eq_getElem (by omega)]; simp
        exact bounds_u16 (HZ.out.2.2.1 _ this)
      obtain ⟨x0, hx0⟩ : ∃ x, zs.getD 0 0 = x := ⟨_, rfl⟩
      rw [hx0] at hc0 hs0
      have HX0 := Lib.hid hx0
      have HCELL := Lib.hid hcell0
      clear hx0 hcell0
      simp at hc0
      go_enter Try.func6, Try.ntmps6
      go_wp2_with fail
      refine (awake_any _).mono ?_
      rintro e w1 ⟨rfl, hb1⟩
      have hc1 := (hb1.cell (p := ⟨ba, off, none⟩) hlba).trans hc0
      have s1 := hb1.size
      have hr0 : Rt (w1.alloc (.cells #[.int .u16 0, .int .i64 0, .int .u32 0] 46)) w1.heap.size 0 0 0 := Blk.new _ _ _
      have hbr0 := hb1.alloc hb1.size (.cells #[.int .u16 0, .int .i64 0, .int .u32 0] 46)
      have hc2 := (World.cell?_alloc_lt w1 (.cells #[.int .u16 0, .int .i64 0, .int .u32 0] 46) ⟨ba, off, none⟩ (by simp; omega)).trans hc1
      clear hb1
      go_wp2_with fail
      generalize w1.alloc (.cells #[.int .u16 0, .int .i64 0, .int .u32 0] 46) = w2 at *
      generalize w1.heap.size = b at *
      go_loopw [4, 5, 6] (fun lo hi i wr => ∃ (j : Nat) (la lv hv : Int), j ≤ len ∧ i = .int .i64 j ∧ lo = .int .i64 lv ∧ hi = .int .i64 hv ∧ 0 ≤ lv ∧ lv ≤ 65535 ∧ 0 ≤ hv ∧ hv ≤ 65535 ∧ (j ≠ 0 → 8 * lv - 7 ≤ est (zs.take j) 0 0 ∧ est (zs.take j) 0 0 ≤ 8 * hv + 7) ∧ Rt wr b la j (est (zs.take j) 0 0) ∧ Below w.heap.size w wr) (fun _ _ i _ => len - (intOf i).toNat)
      case atStart => exact ⟨0, 0, x0, x0, by omega, rfl, rfl, rfl, by omega, by omega, by omega, by omega, fun h => absurd rfl h, hr0, hbr0⟩
      case round =>
        clear hr0 hbr0 hc1 hc0 hc2
        obtain ⟨j, la, lv, hv, hj, rfl, rfl, rfl, hlv0, hlv9, hhv0, hhv9, hin, hr, hb⟩ := hrel
        have HR := Lib.hid hr
        have HB := Lib.hid hb
        have HIN := Lib.hid hin
        clear hr hb hin
        have hel := est_in HZ.out j
        obtain ⟨y, hy⟩ : ∃ y, est (zs.take j) 0 0 = y := ⟨_, rfl⟩
        rw [hy] at hel
        have HY := Lib.hid hy
        clear hy
        by_cases hlt : j < len
        · have hstep := est_take (l := zs) (k := j) (by have := HZ.out.1; omega)
          have hcell := HCELL.out
          have hcj := hcell j hlt
          have hsb : 0 ≤ zs.getD j 0 ∧ zs.getD j 0 ≤ 65535 := by
            have hl' := HZ.out.1
            have : zs.getD j 0 ∈ zs := by rw [List.getD, List.getElem?_eq_getElem (by omega)]; simp
            exact bounds_u16 (HZ.out.2.2.1 _ this)
          clear hcell
          rw [HY.out] at hstep
          generalize zs.getD j 0 = s at *
          have hcw := (HB.out.cell (p := ⟨ba, off + j, none⟩) hlba).trans hcj
          have HST := Lib.hid hstep
          clear hcj hstep
          have key : ∃ e', (∀ w6, Rt w6 b s (j + 1) e' → Rt w6 b s ((j + 1 : Nat) : Int) (est (zs.take (j + 1)) 0 0)) ∧ (Calls Try.prog 15 #[.pointer (some ⟨b, 0, none⟩), .int .u16 s] wr fun e w' => e = .returned (.tuple #[]) ∧ Rt w' b s (j + 1) e' ∧ wr.grownBy w' (some b)) := by
            by_cases h0 : j = 0
            · refine ⟨8 * s, fun w6 h6 => h6.eq (by omega) (by rw [HST.out, nxt, if_pos (by omega)]), ?_⟩
              refine (radd_first _ _ _ _ _ (HR.out.eq (show (j : Int) = 0 by omega) rfl) hsb.1 hsb.2).mono fun e w' ⟨h1, h2, h3⟩ => ⟨h1, h2.eq (by omega) rfl, h3⟩
            · refine ⟨y - (y + 4) / 8 + s, fun w6 h6 => h6.eq (by omega) (by rw [HST.out, nxt, if_neg (by omega)]), ?_⟩
              exact radd_next _ _ _ _ _ _ (HR.out.eq rfl HY.out) (by omega) (by omega) hel.1 hel.2 hsb.1 hsb.2
          obtain ⟨e', hfix, hcall⟩ := key
          have HFIX := Lib.hid hfix
          have HCALL := Lib.hid hcall
          clear hfix hcall
          go_wp2_with fail
          refine HCALL.out.mono ?_
          rintro e w6 ⟨rfl, hr6, hg6⟩
          have hb6 := below_only HB.out hg6 HB.out.size s1
          have hcw6 := (hb6.cell (p := ⟨ba, off + j, none⟩) hlba).trans ((HB.out.cell (p := ⟨ba, off + j, none⟩) hlba).symm.trans hcw)
          have HR6 := Lib.hid hr6
          have HB6 := Lib.hid hb6
          clear hr6 hb6 hcw
          go_wp2_with fail
          go_roundw
          case rel =>
            obtain ⟨lv', hl', a1, a2, a3⟩ : ∃ x : Int, (if s < lv then s else lv) = x ∧ x ≤ s ∧ x ≤ lv ∧ 0 ≤ x := ⟨_, rfl, by split <;> omega, by split <;> omega, by split <;> omega⟩
            obtain ⟨hv', hh', b1, b2, b3⟩ : ∃ x : Int, (if hv < s then s else hv) = x ∧ s ≤ x ∧ hv ≤ x ∧ x ≤ 65535 := ⟨_, rfl, by split <;> omega, by split <;> omega, by split <;> omega⟩
            rw [hl', hh']
            have hnb := nxt_bounds j y s lv' hv' a1 b1 (fun h => by have h4 := HIN.out (by omega); rw [HY.out] at h4; omega)
            exact ⟨j + 1, s, lv', hv', by omega, by go_num, rfl, rfl, by omega, by omega, by omega, by omega, fun _ => by rw [HST.out]; exact hnb, HFIX.out _ HR6.out, HB6.out⟩
          case measure => simp [intOf]; omega
        · obtain rfl : j = len := by omega
          have hin := HIN.out (by omega)
          rw [HY.out] at hin
          obtain ⟨hin1, hin2⟩ := hin
          have hyl : y = est zs 0 0 := by rw [← HY.out, List.take_of_length_le (by have := HZ.out.1; omega)]
          have HR1 := Lib.hid (HR.out.eq rfl HY.out)
          have HZ2 := Lib.hid (HZ.out.below HB.out)
          have HE : Hid (∀ w, Ints .u16 w (some ⟨ba, off, none⟩) j cap zs → Calls Try.prog 19 #[.slice (some ⟨ba, off, none⟩) j cap] w fun e w' => e = .returned (.int .i64 y) ∧ w = w') := fun w h => by have := resti_any _ _ cap zs w h (by omega); rw [← hyl] at this; exact this
          clear hyl
          go_wp2_with (first | (go_at_call 18; refine (rest_any b _ _ _ _ HR1.out).mono ?_; rintro e w8 ⟨rfl, rfl⟩) | (go_at_call 19; refine (HE.out _ HZ2.out).mono ?_; rintro e w8 ⟨rfl, rfl⟩))
          go_ret
          exact ⟨ret_true (by simp), HB.out⟩
set_option maxHeartbeats 2000000 in
theorem once_any (s t h : Int) (w : World) (hs0 : 0 ≤ s) (hs9 : s ≤ 65535) (ht0 : 0 ≤ t) (ht9 : t ≤ 18446744073709551615) (hh0 : 0 ≤ h) (hh9 : h ≤ 65535) :
    Calls Try.prog 4 #[.int .u16 s, .int .u64 t, .int .u16 h] w fun e w' => e = .returned (.bool true) ∧ Below w.heap.size w w' := by
  by_cases hl : 4611686018427387904 < t
  · go_enter Try.func4, Try.ntmps4
    go_wp2_with fail
    refine (awake_any _).mono ?_
    rintro e w1 ⟨rfl, hb1⟩
    go_wp2_with fail
    refine (awake_any _).mono ?_
    rintro e w2 ⟨rfl, hb2⟩
    go_wp2_with fail
    go_ret
    exact ⟨rfl, hb1.trans (hb2.mono hb1.size)⟩
  · go_enter Try.func4, Try.ntmps4
    go_wp2_with fail
    refine (awake_any _).mono ?_
    rintro e w1 ⟨rfl, hb1⟩
    go_wp2_with fail
    refine (new_any _).mono ?_
    rintro e w2 ⟨b, rfl, hn, hlb, hb2, hlt2⟩
    have s1 := hb1.size
    have s2 := hb2.size
    have hbb := hb1.trans (hb2.mono s1)
    clear hb1 hb2
    go_wp2_with fail
    refine (take_any _ _ _ _ _ hn).mono ?_
    rintro e w3 ⟨rfl, ⟨k, hh⟩, hg3⟩
    have HB3 := Lib.hid (below_only hbb hg3 hbb.size (by omega))
    have HH := Lib.hid hh
    clear hbb hn hh
    go_wp2_with fail
    refine (reply_has _ _ _ _ _ _ HH.out ht0 (by omega) (by omega)).mono ?_
    rintro e w4 ⟨rfl, hn4, hg4⟩
    have HB4 := Lib.hid (below_only HB3.out hg4 HB3.out.size (by omega))
    have HN4 := Lib.hid hn4
    have s4 := HB4.out.size
    clear hn4
    have hech := ech_in s (hold t (t + h)) hs0 hs9 (hold_0 t (t + h) ht0 (by omega))
    obtain ⟨he0, he9⟩ := hech
    go_wp2_with (first | (go_at_call 13; refine (reply_no _ _ _ HN4.out).mono ?_; rintro e w5 ⟨rfl, rfl⟩) | (go_at_call 12; refine (take_nil _ _ _).mono ?_; rintro e w5 ⟨rfl, rfl⟩) | (go_at_call 10; refine (held_nil _ _).mono ?_; rintro e w5 ⟨rfl, rfl⟩))
    have hz : No (w4.alloc (.cells #[.pointer none] 41)) w4.heap.size := Blk.new _ _ _
    have HB5 := Lib.hid (HB4.out.alloc s4 (.cells #[.pointer none] 41))
    have s5 := HB5.out.size
    refine (rreply_has s t (t + h) _ hs0 hs9 ht0 (by omega) (by omega)).mono ?_
    rintro e w6 ⟨rfl, hb6⟩
    have HZ := Lib.hid (hz.below hb6)
    have HB6 := Lib.hid (HB5.out.trans (hb6.mono s5))
    clear hz hb6
    go_wp2_with (first | (go_at_call 13; ((with_reducible refine (reply_no w4.heap.size _ _ HZ.out).mono ?_); rintro e w5 ⟨rfl, rfl⟩)) | (go_at_call 13; refine (reply_nil _ _).mono ?_; rintro e w5 ⟨rfl, rfl⟩))
    go_ret
    exact ⟨ret_true (by simp), HB6.out⟩
end Go.Proofs.Ytmopabmpbeoppaa
