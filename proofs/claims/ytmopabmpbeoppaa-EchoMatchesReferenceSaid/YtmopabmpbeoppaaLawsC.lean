import Derived.Test.YtmopabmpbeoppaaLawsA
namespace Go.Proofs.Ytmopabmpbeoppaa
open Go.ChangeShapes Go.WideShapes Go.ChangeAt Go.RowKit
set_option linter.unusedVariables false
set_option linter.unusedSimpArgs false
/-- The calls a slice shows: a flag, a stamp and a tick each. -/
def Cs (w : World) (a : Option Addr) (len : Nat) : Prop :=
  0 < len → ∃ b off, a = some ⟨b, off, none⟩ ∧ b < w.heap.size ∧ ∀ i, i < len → ∃ (c : Bool) (s t : Int), w.cell? ⟨b, off + i * 3, none⟩ = some (.bool c) ∧ w.cell? ⟨b, off + i * 3 + 1, none⟩ = some (.int .u16 s) ∧ w.cell? ⟨b, off + i * 3 + 2, none⟩ = some (.int .u64 t) ∧
    0 ≤ s ∧ s ≤ 65535 ∧ 0 ≤ t ∧ t ≤ 18446744073709551615
theorem No.drew {w : World} {b : Nat} (h : No w b) : No w.drew b := h
theorem Has.drew {w : World} {b k : Nat} {s t : Int} (h : Has w b k s t) : Has w.drew b k s t := h
theorem keep4 {kb ba o : Nat} {v0 v1 v2 v3 : Value} {w w' : World} (hb : Below w.heap.size w w') (h : w.cell? ⟨kb, 0, none⟩ = some v0 ∧ w.cell? ⟨kb, 1, none⟩ = some v1 ∧ w.cell? ⟨kb, 2, none⟩ = some v2 ∧ w.cell? ⟨ba, o, none⟩ = some v3 ∧ kb < w.heap.size ∧ ba < w.heap.size) :
    w'.cell? ⟨kb, 0, none⟩ = some v0 ∧ w'.cell? ⟨kb, 1, none⟩ = some v1 ∧ w'.cell? ⟨kb, 2, none⟩ = some v2 ∧ w'.cell? ⟨ba, o, none⟩ = some v3 ∧ kb < w'.heap.size ∧ ba < w'.heap.size :=
  ⟨(hb.cell h.2.2.2.2.1).trans h.1, (hb.cell h.2.2.2.2.1).trans h.2.1, (hb.cell h.2.2.2.2.1).trans h.2.2.1, (hb.cell h.2.2.2.2.2).trans h.2.2.2.1, Nat.lt_of_lt_of_le h.2.2.2.2.1 hb.size, Nat.lt_of_lt_of_le h.2.2.2.2.2 hb.size⟩
theorem keep4g {kb ba o b : Nat} {v0 v1 v2 v3 : Value} {w w' : World} (h1 : b ≠ kb) (h2 : b ≠ ba) (hb : w.grownBy w' (some b)) (h : w.cell? ⟨kb, 0, none⟩ = some v0 ∧ w.cell? ⟨kb, 1, none⟩ = some v1 ∧ w.cell? ⟨kb, 2, none⟩ = some v2 ∧ w.cell? ⟨ba, o, none⟩ = some v3 ∧ kb < w.heap.size ∧ ba < w.heap.size) :
    w'.cell? ⟨kb, 0, none⟩ = some v0 ∧ w'.cell? ⟨kb, 1, none⟩ = some v1 ∧ w'.cell? ⟨kb, 2, none⟩ = some v2 ∧ w'.cell? ⟨ba, o, none⟩ = some v3 ∧ kb < w'.heap.size ∧ ba < w'.heap.size := by
  have g1 : (some kb : Option Nat) ≠ some b := by intro e; injection e with e; exact h1 e.symm
  have g2 : (some ba : Option Nat) ≠ some b := by intro e; injection e with e; exact h2 e.symm
  exact ⟨(World.grownBy.cell_far hb _ h.2.2.2.2.1 g1).trans h.1, (World.grownBy.cell_far hb _ h.2.2.2.2.1 g1).trans h.2.1, (World.grownBy.cell_far hb _ h.2.2.2.2.1 g1).trans h.2.2.1, (World.grownBy.cell_far hb _ h.2.2.2.2.2 g2).trans h.2.2.2.1, Nat.lt_of_lt_of_le h.2.2.2.2.1 hb.size, Nat.lt_of_lt_of_le h.2.2.2.2.2 hb.size⟩
/-- The keeper and the reference agree. -/
def Agree (w : World) (b kb : Nat) : Prop :=
  (∃ s t : Int, No w b ∧ Blk w kb 28 #[.bool false, .int .i64 s, .int .u64 t]) ∨
  (∃ (k : Nat) (s t : Int), Has w b k s t ∧ Blk w kb 28 #[.bool true, .int .i64 s, .int .u64 t] ∧ 0 ≤ s ∧ s ≤ 65535 ∧ 0 ≤ t ∧ t ≤ 18446744073709551615)
set_option maxRecDepth 100000 in
set_option maxHeartbeats 4000000 in
theorem matches_any (A : Option Addr) (len cap : Nat) (t : Int) (w : World) (hz : Cs w A len) (hlc : len ≤ cap) (hcap : cap ≤ maxLen) (ht0 : 0 ≤ t) (ht9 : t ≤ 18446744073709551615) :
    Calls Try.prog 3 #[.slice A len cap, .int .u64 t] w fun e w' => e = .returned (.bool true) ∧ Below w.heap.size w w' := by
  unfold maxLen at hcap
  have hlm : len ≤ 9223372036854775807 := Nat.le_trans hlc hcap
  by_cases hl : 100 < len
  · go_enter Try.func3, Try.ntmps3
    go_wp2_with fail
    refine (awake_any _).mono ?_
    rintro e w1 ⟨rfl, hb1⟩
    go_wp2_with fail
    refine (awake_any _).mono ?_
    rintro e w2 ⟨rfl, hb2⟩
    go_wp2_with fail
    go_ret
    exact ⟨rfl, hb1.trans (hb2.mono hb1.size)⟩
  · have HZ := Lib.hid hz
    clear hz
    go_enter Try.func3, Try.ntmps3
    go_wp2_with fail
    refine (awake_any _).mono ?_
    rintro e w1 ⟨rfl, hb1⟩
    go_wp2_with fail
    refine (new_any _).mono ?_
    rintro e w2 ⟨b, rfl, hn, hlb, hb2, hlt2⟩
    have s1 := hb1.size
    have s2 := hb2.size
    have hlb' : w.heap.size ≤ b := Nat.le_trans s1 hlb
    have hbb := hb1.trans (hb2.mono s1)
    clear hb1 hb2
    have hk0 : Blk (w2.alloc (.cells #[.bool false, .int .i64 0, .int .u64 0] 28)) w2.heap.size 28 #[.bool false, .int .i64 0, .int .u64 0] := Blk.new _ _ _
    have hn0 : No (w2.alloc (.cells #[.bool false, .int .i64 0, .int .u64 0] 28)) b := Blk.alloc hn _
    have hbb0 := hbb.alloc hbb.size (.cells #[.bool false, .int .i64 0, .int .u64 0] 28)
    have hk2 : w.heap.size ≤ w2.heap.size := hbb.size
    have AG := Lib.hid (show Agree (w2.alloc (.cells #[.bool false, .int .i64 0, .int .u64 0] 28)) b w2.heap.size from .inl ⟨0, 0, hn0, hk0⟩)
    have HB0 := Lib.hid hbb0
    clear hn hn0 hk0 hbb hbb0
    go_wp2_with fail
    go_loopw [7] (fun i wr => ∃ (j : Nat), j ≤ len ∧ i = .int .i64 j ∧ Agree wr b w2.heap.size ∧ Below w.heap.size w wr) (fun i _ => len - (intOf i).toNat)
    case atStart => exact ⟨0, by omega, rfl, AG.out, HB0.out⟩
    case round =>
      clear AG HB0
      obtain ⟨kb, hkb⟩ : ∃ g, w2.heap.size = g := ⟨_, rfl⟩
      rw [hkb] at hrel hk2 ⊢
      clear hkb
      obtain ⟨j, hj, rfl, hag, hb⟩ := hrel
      have HB := Lib.hid hb
      have hsz := hb.size
      clear hb
      by_cases hlt : j < len
      · obtain ⟨ba, off, rfl, hlba, hcell⟩ := HZ.out (by omega)
        obtain ⟨c, s, x, hc0, hc1, hc2, hs0, hs9, hx0, hx9⟩ := hcell j hlt
        clear hcell
        have d0 := (HB.out.cell (p := ⟨ba, off + j * 3, none⟩) hlba).trans hc0
        have d1 := (HB.out.cell (p := ⟨ba, off + j * 3 + 1, none⟩) hlba).trans hc1
        have d2 := (HB.out.cell (p := ⟨ba, off + j * 3 + 2, none⟩) hlba).trans hc2
        have hba := Nat.lt_of_lt_of_le hlba hsz
        have hbba : b ≠ ba := by omega
        rcases hag with ⟨s', x', hno, hkk⟩ | ⟨k, s', x', hhas, hkk, hs0', hs9', hx0', hx9'⟩
        · have HN := Lib.hid hno
          have HK := Lib.hid hkk
          have hkb := hkk.lt
          have m0 := Blk.cell hkk 0
          have m1 := Blk.cell hkk 1
          have m2 := Blk.cell hkk 2
          have f0 := Blk.frozen hkk 0
          simp at m0 m1 m2
          have hbk : b ≠ kb := Blk.ne_ hno hkk (by decide)
          clear hno hkk
          cases c
          · go_wp2_with (go_at_call 10; refine (held_no _ _ _ HN.out).mono ?_; rintro e w3 ⟨rfl, rfl⟩)
            go_region_held3 (fun w' => w'.cell? ⟨kb, 0, none⟩ = some (.bool false) ∧ w'.cell? ⟨kb, 1, none⟩ = some (.int .i64 s') ∧ w'.cell? ⟨kb, 2, none⟩ = some (.int .u64 x') ∧ w'.cell? ⟨ba, off + j * 3 + 2, none⟩ = some (.int .u64 x) ∧ kb < w'.heap.size ∧ ba < w'.heap.size) (first | exact ⟨m0, m1, m2, d2, hkb, hba⟩ | exact keep4 (by assumption) (by assumption)) (first | (go_at_call 13; ((with_reducible refine (reply_no b x _ (by first | exact No.drew HN.out | exact HN.out | exact No.drew (No.below (No.drew HN.out) (by assumption)) | exact No.below (No.drew HN.out) (by assumption) | exact No.below HN.out (by assumption))).mono ?_); rintro e w7 ⟨rfl, rfl⟩)) | (go_at_call 14; ((with_reducible refine (rreply_no s' x' x _).mono ?_); rintro e w8 ⟨rfl, hb8⟩)))
            have HK8 := Lib.hid (Blk.below (Blk.drew HK.out) hb8 hkb)
            have HN8 := Lib.hid (No.below (No.drew HN.out) hb8)
            have HB8 := Lib.hid (HB.out.drew.trans (hb8.mono hsz))
            have m08 := Blk.cell HK8.out 0
            have f08 := Blk.frozen HK8.out 0
            simp at m08
            go_wp2_with fail
            go_roundw
            case rel => exact ⟨j + 1, by omega, by go_num, .inl ⟨_, _, Blk.far HN8.out hbk _, Blk.set_ HK8.out 0 _⟩, HB8.out.setCell (by simpa using hk2) _⟩
            case measure => simp [intOf]; omega
          · go_wp2_with (go_at_call 10; refine (held_no _ _ _ HN.out).mono ?_; rintro e w3 ⟨rfl, rfl⟩)
            refine region_tail 11 (by kernel_rfl) (by kernel_rfl) ?_
            simp only [List.take_succ_cons, List.take_zero, List.drop_succ_cons, List.drop_zero]
            iterate 11 still_step
            refine wpStill_nil ?_
            go_wp2_with fail
            refine (take_any _ _ _ _ _ (Blk.drew HN.out)).mono ?_
            rintro e w4 ⟨rfl, ⟨k4, hh4⟩, hg4⟩
            have HB4 := Lib.hid (below_only HB.out.drew hg4 (show w.heap.size ≤ wr.drew.heap.size from hsz) hlb')
            have HK4 := Lib.hid (Blk.only (Blk.drew HK.out) hg4 hbk.symm)
            have HH4 := Lib.hid hh4
            have d14 := (HB4.out.cell (p := ⟨ba, off + j * 3 + 1, none⟩) hlba).trans hc1
            have d24 := (HB4.out.cell (p := ⟨ba, off + j * 3 + 2, none⟩) hlba).trans hc2
            have m04 := Blk.cell HK4.out 0
            have m14 := Blk.cell HK4.out 1
            have m24 := Blk.cell HK4.out 2
            have f04 := Blk.frozen HK4.out 0
            have f14 := Blk.frozen HK4.out 1
            have f24 := Blk.frozen HK4.out 2
            simp at m04 m14 m24
            have hwx : IntKind.i64.wrap s = s := IntWalk.i64_in _ (by omega)
            go_wp2_with fail
            refine region_tail 12 (by kernel_rfl) (by kernel_rfl) ?_
            simp only [List.take_succ_cons, List.take_zero, List.drop_succ_cons, List.drop_zero]
            iterate 12 still_step
            refine wpStill_nil ?_
            go_wp2_with fail
            go_roundw
            case rel => exact ⟨j + 1, by omega, by go_num, .inr ⟨k4, s, x, ⟨Blk.drew (Blk.far (Blk.far (Blk.far HH4.out.1 hbk _) hbk _) hbk _), Blk.drew (Blk.far (Blk.far (Blk.far HH4.out.2 (Blk.ne_ HH4.out.2 HK4.out (by decide)) _) (Blk.ne_ HH4.out.2 HK4.out (by decide)) _) (Blk.ne_ HH4.out.2 HK4.out (by decide)) _)⟩, Blk.drew (Blk.set_ (Blk.set_ (Blk.set_ HK4.out 0 _) 1 _) 2 _), hs0, hs9, hx0, hx9⟩, (((HB4.out.setCell (by simpa using hk2) _).setCell (by simpa using hk2) _).setCell (by simpa using hk2) _).drew⟩
            case measure => simp [intOf]; omega
        · have HH := Lib.hid hhas
          have HK := Lib.hid hkk
          have hkb := hkk.lt
          have m0 := Blk.cell hkk 0
          have m1 := Blk.cell hkk 1
          have m2 := Blk.cell hkk 2
          simp at m0 m1 m2
          have hbk : b ≠ kb := Blk.ne_ hhas.1 hkk (by decide)
          clear hhas hkk
          have hh0 := hold_0 x' t hx0' ht0
          have hh1 := hold_le x' t hx0' ht0
          have hg0 := hold_0 x' x hx0' hx0
          have hg1 := hold_le x' x hx0' hx0
          have hech := ech_in s' (hold x' x) hs0' hs9' hg0
          obtain ⟨he0, he9⟩ := hech
          have hwe : IntKind.i64.wrap (ech s' (hold x' x)) = ech s' (hold x' x) := IntWalk.i64_in _ (by omega)
          go_wp2_with fail
          refine (held_has _ _ _ _ _ _ HH.out hx0' ht0 ht9).mono ?_
          rintro e w3 ⟨rfl, hb3⟩
          have HB3 := Lib.hid (HB.out.trans (hb3.mono hsz))
          have HK3 := Lib.hid (Blk.below HK.out hb3 hkb)
          have HH3 := Lib.hid (Has.below HH.out hb3)
          have hkb3 := Nat.lt_of_lt_of_le hkb hb3.size
          have hsz3 := HB3.out.size
          clear hb3 HB HK HH d0 d1 d2 m0 m1 m2 hba hkb hsz
          have m0 := Blk.cell HK3.out 0
          have m1 := Blk.cell HK3.out 1
          have m2 := Blk.cell HK3.out 2
          simp at m0 m1 m2
          have hxx : (hold x' t == hold x' t) = true := beq_self_eq_true _
          go_wp2_with fail
          refine (rheld_any s' x' t true _ hx0' ht0 ht9).mono ?_
          rintro e w9 ⟨rfl, hb9⟩
          have HB9 := Lib.hid (HB3.out.trans (hb9.mono hsz3))
          have HK9 := Lib.hid (Blk.below HK3.out hb9 hkb3)
          have HH := Lib.hid (Has.below HH3.out hb9)
          have hkb9 := Nat.lt_of_lt_of_le hkb3 hb9.size
          have hsz9 := HB9.out.size
          clear hb9 HB3 HK3 HH3 m0 m1 m2 hkb3 hsz3
          have m0 := Blk.cell HK9.out 0
          have m1 := Blk.cell HK9.out 1
          have m2 := Blk.cell HK9.out 2
          simp at m0 m1 m2
          have d0 := (HB9.out.cell (p := ⟨ba, off + j * 3, none⟩) hlba).trans hc0
          have d1 := (HB9.out.cell (p := ⟨ba, off + j * 3 + 1, none⟩) hlba).trans hc1
          have d2 := (HB9.out.cell (p := ⟨ba, off + j * 3 + 2, none⟩) hlba).trans hc2
          have hba := Nat.lt_of_lt_of_le hlba hsz9
          cases c
          · go_wp2_with fail
            go_region_held3 (fun w' => w'.cell? ⟨kb, 0, none⟩ = some (.bool true) ∧ w'.cell? ⟨kb, 1, none⟩ = some (.int .i64 s') ∧ w'.cell? ⟨kb, 2, none⟩ = some (.int .u64 x') ∧ w'.cell? ⟨ba, off + j * 3 + 2, none⟩ = some (.int .u64 x) ∧ kb < w'.heap.size ∧ ba < w'.heap.size) (first | exact ⟨m0, m1, m2, d2, hkb9, hba⟩ | exact keep4 (by assumption) (by assumption) | exact keep4g hbk hbba (by assumption) (by assumption)) (first | (go_at_call 13; ((with_reducible refine (reply_has b k s' x' x _ (by first | exact Has.drew HH.out | exact HH.out | exact Has.drew (Has.below (Has.drew HH.out) (by assumption)) | exact Has.below (Has.drew HH.out) (by assumption) | exact Has.below HH.out (by assumption)) hx0' hx0 hx9).mono ?_); rintro e w7 ⟨rfl, hn7, hg7⟩)) | (go_at_call 14; ((with_reducible refine (rreply_has s' x' x _ hs0' hs9' hx0' hx0 hx9).mono ?_); rintro e w8 ⟨rfl, hb8⟩)))
            have HB7 := Lib.hid (below_only HB9.out.drew hg7 (show w.heap.size ≤ w9.drew.heap.size from hsz9) hlb')
            have HK7 := Lib.hid (Blk.only (Blk.drew HK9.out) hg7 hbk.symm)
            have HK8 := Lib.hid (Blk.below HK7.out hb8 HK7.out.lt)
            have HN8 := Lib.hid (No.below hn7 hb8)
            have HB8 := Lib.hid (HB7.out.trans (hb8.mono HB7.out.size))
            have m08 := Blk.cell HK8.out 0
            have f08 := Blk.frozen HK8.out 0
            simp at m08
            go_wp2_with fail
            go_roundw
            case rel => exact ⟨j + 1, by omega, by go_num, .inl ⟨_, _, Blk.far HN8.out hbk _, Blk.set_ HK8.out 0 _⟩, HB8.out.setCell (by simpa using hk2) _⟩
            case measure => simp [intOf]; omega
          · go_wp2_with fail
            refine region_tail 11 (by kernel_rfl) (by kernel_rfl) ?_
            simp only [List.take_succ_cons, List.take_zero, List.drop_succ_cons, List.drop_zero]
            iterate 11 still_step
            refine wpStill_nil ?_
            go_wp2_with fail
            refine (take_any _ _ _ _ _ (Blk.drew HH.out.1)).mono ?_
            rintro e w4 ⟨rfl, ⟨k4, hh4⟩, hg4⟩
            have HB4 := Lib.hid (below_only HB9.out.drew hg4 (show w.heap.size ≤ w9.drew.heap.size from hsz9) hlb')
            have HK4 := Lib.hid (Blk.only (Blk.drew HK9.out) hg4 hbk.symm)
            have HH4 := Lib.hid hh4
            have d14 := (HB4.out.cell (p := ⟨ba, off + j * 3 + 1, none⟩) hlba).trans hc1
            have d24 := (HB4.out.cell (p := ⟨ba, off + j * 3 + 2, none⟩) hlba).trans hc2
            have m04 := Blk.cell HK4.out 0
            have m14 := Blk.cell HK4.out 1
            have m24 := Blk.cell HK4.out 2
            have f04 := Blk.frozen HK4.out 0
            have f14 := Blk.frozen HK4.out 1
            have f24 := Blk.frozen HK4.out 2
            simp at m04 m14 m24
            have hwx : IntKind.i64.wrap s = s := IntWalk.i64_in _ (by omega)
            go_wp2_with fail
            refine region_tail 12 (by kernel_rfl) (by kernel_rfl) ?_
            simp only [List.take_succ_cons, List.take_zero, List.drop_succ_cons, List.drop_zero]
            iterate 12 still_step
            refine wpStill_nil ?_
            go_wp2_with fail
            go_roundw
            case rel => exact ⟨j + 1, by omega, by go_num, .inr ⟨k4, s, x, ⟨Blk.drew (Blk.far (Blk.far (Blk.far HH4.out.1 hbk _) hbk _) hbk _), Blk.drew (Blk.far (Blk.far (Blk.far HH4.out.2 (Blk.ne_ HH4.out.2 HK4.out (by decide)) _) (Blk.ne_ HH4.out.2 HK4.out (by decide)) _) (Blk.ne_ HH4.out.2 HK4.out (by decide)) _)⟩, Blk.drew (Blk.set_ (Blk.set_ (Blk.set_ HK4.out 0 _) 1 _) 2 _), hs0, hs9, hx0, hx9⟩, (((HB4.out.setCell (by simpa using hk2) _).setCell (by simpa using hk2) _).setCell (by simpa using hk2) _).drew⟩
            case measure => simp [intOf]; omega
      · obtain rfl : j = len := by omega
        go_wp2_with fail
        go_ret
        exact ⟨rfl, HB.out⟩
end Go.Proofs.Ytmopabmpbeoppaa
