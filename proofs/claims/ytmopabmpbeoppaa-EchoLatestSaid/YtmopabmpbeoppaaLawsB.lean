import Derived.Test.YtmopabmpbeoppaaLawsA
namespace Go.Proofs.Ytmopabmpbeoppaa
open Go.ChangeShapes Go.WideShapes Go.ChangeAt Go.RowKit
set_option linter.unusedVariables false
set_option linter.unusedSimpArgs false
set_option maxRecDepth 100000 in
set_option maxHeartbeats 4000000 in
theorem Has.drew {w : World} {b k : Nat} {s t : Int} (h : Has w b k s t) : Has w.drew b k s t := h
theorem keepS {kb : Nat} {v0 v1 v2 : Value} {w w' : World} (hb : Below w.heap.size w w') (h : w.cell? ⟨kb, 0, none⟩ = some v0 ∧ w.cell? ⟨kb, 1, none⟩ = some v1 ∧ w.cell? ⟨kb, 2, none⟩ = some v2 ∧ kb < w.heap.size) :
    w'.cell? ⟨kb, 0, none⟩ = some v0 ∧ w'.cell? ⟨kb, 1, none⟩ = some v1 ∧ w'.cell? ⟨kb, 2, none⟩ = some v2 ∧ kb < w'.heap.size :=
  ⟨(hb.cell h.2.2.2).trans h.1, (hb.cell h.2.2.2).trans h.2.1, (hb.cell h.2.2.2).trans h.2.2.1, Nat.lt_of_lt_of_le h.2.2.2 hb.size⟩
theorem keepSg {kb b : Nat} {v0 v1 v2 : Value} {w w' : World} (hne : b ≠ kb) (hb : w.grownBy w' (some b)) (h : w.cell? ⟨kb, 0, none⟩ = some v0 ∧ w.cell? ⟨kb, 1, none⟩ = some v1 ∧ w.cell? ⟨kb, 2, none⟩ = some v2 ∧ kb < w.heap.size) :
    w'.cell? ⟨kb, 0, none⟩ = some v0 ∧ w'.cell? ⟨kb, 1, none⟩ = some v1 ∧ w'.cell? ⟨kb, 2, none⟩ = some v2 ∧ kb < w'.heap.size := by
  have hf : (some b : Option Nat) ≠ some kb := by intro e; injection e with e; exact hne e
  exact ⟨(World.grownBy.cell_far hb _ h.2.2.2 (by intro e; injection e with e; exact hne e.symm)).trans h.1, (World.grownBy.cell_far hb _ h.2.2.2 (by intro e; injection e with e; exact hne e.symm)).trans h.2.1, (World.grownBy.cell_far hb _ h.2.2.2 (by intro e; injection e with e; exact hne e.symm)).trans h.2.2.1, Nat.lt_of_lt_of_le h.2.2.2 hb.size⟩
set_option maxHeartbeats 8000000 in
theorem latest_any (A : Option Addr) (len cap : Nat) (zs : List Int) (t h : Int) (w : World) (hz : Ints .u16 w A len cap zs) (hcap : cap ≤ maxLen) (ht0 : 0 ≤ t) (ht9 : t ≤ 18446744073709551615) (hh0 : 0 ≤ h) (hh9 : h ≤ 65535) :
    Calls Try.prog 7 #[.slice A len cap, .int .u64 t, .int .u16 h] w fun e w' => e = .returned (.bool true) ∧ Below w.heap.size w w' := by
  unfold maxLen at hcap
  have hlc := hz.2.1
  by_cases hl : len < 1
  · go_enter Try.func7, Try.ntmps7
    go_wp2_with fail
    refine (awake_any _).mono ?_
    rintro e w1 ⟨rfl, hb1⟩
    go_wp2_with fail
    refine (awake_any _).mono ?_
    rintro e w2 ⟨rfl, hb2⟩
    go_wp2_with fail
    go_ret
    exact ⟨rfl, hb1.trans (hb2.mono hb1.size)⟩
  · have hpos : 0 < len := by omega
    by_cases hl : 100 < len
    · go_enter Try.func7, Try.ntmps7
      go_wp2_with fail
      refine (awake_any _).mono ?_
      rintro e w1 ⟨rfl, hb1⟩
      go_wp2_with fail
      refine (awake_any _).mono ?_
      rintro e w2 ⟨rfl, hb2⟩
      go_wp2_with fail
      go_ret
      exact ⟨rfl, hb1.trans (hb2.mono hb1.size)⟩
    · rename_i hl1
      by_cases hl : 4611686018427387904 < t
      · go_enter Try.func7, Try.ntmps7
        go_wp2_with fail
        refine (awake_any _).mono ?_
        rintro e w1 ⟨rfl, hb1⟩
        go_wp2_with fail
        refine (awake_any _).mono ?_
        rintro e w2 ⟨rfl, hb2⟩
        go_wp2_with fail
        go_ret
        exact ⟨rfl, hb1.trans (hb2.mono hb1.size)⟩
      · have HZ := Lib.hid hz
        clear hz
        obtain ⟨ba, off, rfl, hlba, hcell0⟩ := HZ.out.2.2.2 (by omega)
        have HCELL := Lib.hid hcell0
        clear hcell0
        go_enter Try.func7, Try.ntmps7
        go_wp2_with fail
        refine (awake_any _).mono ?_
        rintro e w1 ⟨rfl, hb1⟩
        go_wp2_with fail
        refine (new_any _).mono ?_
        rintro e w2 ⟨b, rfl, hn, hlb, hb2, hlt2⟩
        have s1 := hb1.size
        have s2 := hb2.size
        have hbb := hb1.trans (hb2.mono s1)
        clear hb1 hb2
        go_wp2_with fail
        go_loopw [8] (fun i wr => ∃ (j : Nat) (v : Value), j ≤ len ∧ i = .int .i64 j ∧ Blk wr b 41 #[v] ∧ (j ≠ 0 → ∃ k, Has wr b k (zs.getD (j - 1) 0) (t + (j : Int) - 1)) ∧ Below w.heap.size w wr) (fun i _ => len - (intOf i).toNat)
        case atStart => exact ⟨0, _, by omega, rfl, hn, fun h => absurd rfl h, hbb⟩
        case round =>
          clear hn hbb
          obtain ⟨j, v, hj, rfl, hbk, hhas, hb⟩ := hrel
          have HK := Lib.hid hbk
          have HH := Lib.hid hhas
          have HB := Lib.hid hb
          clear hbk hhas hb
          by_cases hlt : j < len
          · have hcell := HCELL.out
            have hcj := hcell j hlt
            have hsb : 0 ≤ zs.getD j 0 ∧ zs.getD j 0 ≤ 65535 := by
              have hl' := HZ.out.1
              have : zs.getD j 0 ∈ zs := by rw [List.getD, List.getElem?_eq_getElem (by omega)]; simp
              exact bounds_u16 (HZ.out.2.2.1 _ this)
            clear hcell
            obtain ⟨s, hs⟩ : ∃ s, zs.getD j 0 = s := ⟨_, rfl⟩
            rw [hs] at hcj hsb
            have HS := Lib.hid hs
            clear hs
            have hcw := (HB.out.cell (p := ⟨ba, off + j, none⟩) hlba).trans hcj
            clear hcj
            go_wp2_with fail
            refine (take_any _ _ _ _ _ HK.out).mono ?_
            rintro e w3 ⟨rfl, ⟨k, hh⟩, hg3⟩
            have hb3 := below_only HB.out hg3 HB.out.size (by omega)
            go_wp2_with fail
            go_roundw
            case rel => exact ⟨j + 1, _, by omega, by go_num, hh.1, fun _ => ⟨k, by have := HS.out; simp only [Nat.add_sub_cancel]; rw [this, show t + ((j + 1 : Nat) : Int) - 1 = t + j by omega]; exact hh⟩, hb3⟩
            case measure => simp [intOf]; omega
          · obtain rfl : j = len := by omega
            obtain ⟨k, hh⟩ := HH.out (by omega)
            have hcj := HCELL.out (j - 1) (by omega)
            obtain ⟨s, hs⟩ : ∃ s, zs.getD (j - 1) 0 = s := ⟨_, rfl⟩
            have hsb : 0 ≤ s ∧ s ≤ 65535 := by
              have hl' := HZ.out.1
              have : zs.getD (j - 1) 0 ∈ zs := by rw [List.getD, List.getElem?_eq_getElem (by omega)]; simp
              rw [← hs]
              exact bounds_u16 (HZ.out.2.2.1 _ this)
            rw [hs] at hcj hh
            clear hs
            have hcw := (HB.out.cell (p := ⟨ba, off + (j - 1), none⟩) hlba).trans hcj
            clear hcj
            have HHH : Hid (Has wr b k s (t + ((j : Int) - 1))) := by have := hh; rw [show t + (j : Int) - 1 = t + ((j : Int) - 1) by omega] at this; exact this
            clear hh
            have sB := HB.out.size
            have eh : hold (t + ((j : Int) - 1)) (t + ((j : Int) - 1) + h) = h := by unfold hold; rw [if_neg (by omega)]; omega
            have hech := ech_in s h hsb.1 hsb.2 hh0
            obtain ⟨he0, he9⟩ := hech
            go_wp2_with fail
            refine (held_has _ _ _ _ _ _ HHH.out (by omega) (by omega) (by omega)).mono ?_
            rintro e w5 ⟨rfl, hb5⟩
            have HH5 := Lib.hid (HHH.out.below hb5)
            have HB5 := Lib.hid (HB.out.trans (hb5.mono sB))
            have hcw5 := (hb5.cell (p := ⟨ba, off + (j - 1), none⟩) (by simp; omega)).trans hcw
            have s5 := HB5.out.size
            clear hcw hb5
            have hkb : Blk (w5.alloc (.cells #[.bool true, .int .i64 s, .int .u64 (t + ((j : Int) - 1))] 28)) w5.heap.size 28 #[.bool true, .int .i64 s, .int .u64 (t + ((j : Int) - 1))] := Blk.new _ _ _
            have HH6 : Hid (Has (w5.alloc (.cells #[.bool true, .int .i64 s, .int .u64 (t + ((j : Int) - 1))] 28)) b k s (t + ((j : Int) - 1))) := ⟨Blk.alloc HH5.out.1 _, Blk.alloc HH5.out.2 _⟩
            have HB6 := Lib.hid (HB5.out.alloc s5 (.cells #[.bool true, .int .i64 s, .int .u64 (t + ((j : Int) - 1))] 28))
            have hkb6 : b ≠ w5.heap.size := by have := HH5.out.1.lt; omega
            go_wp2_with fail
            generalize w5.alloc (.cells #[.bool true, .int .i64 s, .int .u64 (t + ((j : Int) - 1))] 28) = w6 at *
            obtain ⟨kb, hkbe⟩ : ∃ g, w5.heap.size = g := ⟨_, rfl⟩
            rw [hkbe] at hkb hkb6 ⊢
            clear hkbe
            have hklt := hkb.lt
            have hblt := HH6.out.1.lt
            have m0 := Blk.cell hkb 0
            have m1 := Blk.cell hkb 1
            have m2 := Blk.cell hkb 2
            simp at m0 m1 m2
            have s6 := HB6.out.size
            clear hkb
            have hhh : (h == h) = true := beq_self_eq_true h
            have hw1 : IntKind.u64.wrap h = h := IntWalk.u64_in _ (by omega)
            have hw2 : IntKind.u64.wrap (t + ((j : Int) - 1) + h) = t + ((j : Int) - 1) + h := IntWalk.u64_in _ (by omega)
            have hw3 : IntKind.i64.wrap (ech s h) = ech s h := IntWalk.i64_in _ (by omega)
            go_region_held3 (fun w' => w'.cell? ⟨kb, 0, none⟩ = some (.bool true) ∧ w'.cell? ⟨kb, 1, none⟩ = some (.int .i64 s) ∧ w'.cell? ⟨kb, 2, none⟩ = some (.int .u64 (t + ((j : Int) - 1))) ∧ kb < w'.heap.size) (first | exact ⟨m0, m1, m2, hklt⟩ | exact keepS (by assumption) (by assumption) | exact keepSg hkb6 (by assumption) (by assumption)) (first | (go_at_call 13; ((with_reducible refine (reply_has b k s (t + ((j : Int) - 1)) (t + ((j : Int) - 1) + h) _ (by first | exact Has.drew HH6.out | exact HH6.out | exact Has.drew (Has.below (Has.drew HH6.out) (by assumption)) | exact Has.below (Has.drew HH6.out) (by assumption) | exact Has.below HH6.out (by assumption)) (by omega) (by omega) (by omega)).mono ?_); rintro e w7 ⟨rfl, hn7, hg7⟩)) | (go_at_call 14; ((with_reducible refine (rreply_has s (t + ((j : Int) - 1)) (t + ((j : Int) - 1) + h) _ hsb.1 hsb.2 (by omega) (by omega) (by omega)).mono ?_); rintro e w8 ⟨rfl, hb8⟩)))
            have hw7 := below_only (a := w) (w := w6.drew) (HB6.out.drew) hg7 s6 (by omega)
            have hw8 := hw7.trans (hb8.mono (Nat.le_trans (show w.heap.size ≤ w6.drew.heap.size from s6) hg7.size))
            go_wp2_with fail
            go_ret
            exact ⟨ret_true (by simp [eh]), hw8⟩
end Go.Proofs.Ytmopabmpbeoppaa
