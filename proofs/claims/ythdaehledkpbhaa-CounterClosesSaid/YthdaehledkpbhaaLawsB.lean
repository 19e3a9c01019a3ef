import Derived.Test.YthdaehledkpbhaaLawsA
namespace Go.Proofs.Ythdaehledkpbhaa
open Go.ChangeShapes Go.WideShapes Go.ChangeAt Go.RowKit
set_option linter.unusedVariables false
set_option linter.unusedSimpArgs false
attribute [local go_sem] eqlErr
#print axioms closes_any
theorem Ctr.drewN {w : World} {b : Nat} {n g : Int} {c : Bool} (h : Ctr w b n g c) (k : Nat) : Ctr (w.drewN k) b n g c := h

theorem left_open (b : Nat) (f g : Int) (k : Int) (w : World) (h : Ctr w b (f + k) g false) (h0 : 0 ≤ f) (hk : 0 ≤ k) (hn : f + k ≤ 9223372036854775807) : Calls Try.prog 13 #[.pointer (some ⟨b, 0, none⟩)] w fun e w' => e = .returned (.int .u64 (9223372036854775807 - f - k)) ∧ w = w' :=
  (left_any b _ g false w h (by omega) hn).mono fun e w' ⟨he, hw⟩ => ⟨by rw [he]; exact ret_int (by simp only [Bool.false_eq_true, if_false]; omega), hw⟩
theorem left_shut (b : Nat) (n g : Int) (w : World) (h : Ctr w b n g true) (h0 : 0 ≤ n) (hn : n ≤ 9223372036854775807) : Calls Try.prog 13 #[.pointer (some ⟨b, 0, none⟩)] w fun e w' => e = .returned (.int .u64 0) ∧ w = w' :=
  (left_any b _ g true w h (by omega) hn).mono fun e w' ⟨he, hw⟩ => ⟨by rw [he]; exact ret_int (by simp), hw⟩

/-- The state at a loop's head. -/
def St (wr : World) (b bm : Nat) (f : Int) (k : Nat) (cl : Bool) : Prop := Ctr wr b (f + k) k cl ∧ Blk wr bm 36 #[.int .u64 f, .int .u64 k, .bool cl]

set_option maxRecDepth 100000 in
set_option maxHeartbeats 4000000 in
theorem cmatches_any (x : Int) (a : Option Addr) (len cap : Nat) (zs : List Int) (w : World) (hx0 : 0 ≤ x) (hx : x ≤ 18446744073709551615) (hz : Ints .u8 w a len cap zs) (hcap : cap ≤ maxLen) :
    Calls Try.prog 5 #[.int .u64 x, .slice a len cap] w fun e w' => e = .returned (.bool true) ∧ Below w.heap.size w w' := by
  unfold maxLen at hcap
  have hlc := hz.2.1
  by_cases hl : 200 < len
  · go_enter Try.func5, Try.ntmps5
    go_wp2_with fail
    refine (awake_any _).mono ?_
    rintro e w1 ⟨rfl, hb1⟩
    go_wp2_with fail
    refine (awake_any _).mono ?_
    rintro e w2 ⟨rfl, hb2⟩
    go_wp2_with fail
    go_ret
    exact ⟨rfl, hb1.trans (hb2.mono hb1.size)⟩
  · have ht := top_le x
    have ht0 := top_0 x hx0
    have HZ := Lib.hid hz
    clear hz
    go_enter Try.func5, Try.ntmps5
    go_wp2_with fail
    refine (awake_any _).mono ?_
    rintro e w1 ⟨rfl, hb1⟩
    go_wp2_with (first | (go_at_call 9; refine (new_top _ _ (by omega) (by omega)).mono ?_; rintro e w2 ⟨b, rfl, hc, hlb, hb2, hlt2⟩) | (go_at_call 15; refine (rnew_top _ _ (by omega) (by omega)).mono ?_; rintro e w3 ⟨rfl, hb3⟩))
    have s1 := hb1.size
    have s2 := hb2.size
    have s3 := hb3.size
    have hm0 : Blk (w3.alloc (.cells #[.int .u64 (top x), .int .u64 0, .bool false] 36)) w3.heap.size 36 #[.int .u64 (top x), .int .u64 0, .bool false] := Blk.new _ _ _
    have hc0 : Ctr (w3.alloc (.cells #[.int .u64 (top x), .int .u64 0, .bool false] 36)) b (top x) 0 false := Blk.alloc (hc.below hb3) _
    have hbb : Below w.heap.size w (w3.alloc (.cells #[.int .u64 (top x), .int .u64 0, .bool false] 36)) := ((hb1.trans (hb2.mono (by omega))).trans (hb3.mono (by omega))).alloc (by omega) _
    have hst : St (w3.alloc (.cells #[.int .u64 (top x), .int .u64 0, .bool false] 36)) b w3.heap.size (top x) 0 false := ⟨hc0.eq (by omega) rfl, hm0⟩
    have hlm : w.heap.size ≤ w3.heap.size := by omega
    have hlb' : w.heap.size ≤ b := by omega
    clear hm0 hc0 hb1 hb2 hb3 hc hlb hlt2 s1 s2 s3
    generalize w3.alloc (.cells #[.int .u64 (top x), .int .u64 0, .bool false] 36) = w4 at *
    generalize w3.heap.size = bm at *
    clear w1 w2 w3
    go_loopw [7] (fun i wr => ∃ (j k : Nat) (cl : Bool), j ≤ len ∧ i = .int .i64 j ∧ k ≤ j ∧ top x + k ≤ 9223372036854775807 ∧ St wr b bm (top x) k cl ∧ Below w.heap.size w wr) (fun i _ => len - (intOf i).toNat)
    case atStart => exact ⟨0, 0, false, by omega, rfl, by omega, by omega, hst, hbb⟩
    case round =>
      clear hst hbb
      obtain ⟨j, k, cl, hj, rfl, hk, hkt, ⟨hc, hm⟩, hb⟩ := hrel
      by_cases hlt : j < len
      · obtain ⟨ba, off, rfl, hlba, hcell⟩ := HZ.out.2.2.2 (by omega)
        have hcj := hcell j hlt
        have hzb : 0 ≤ zs.getD j 0 ∧ zs.getD j 0 ≤ 255 := by
          have hl' := HZ.out.1
          have : zs.getD j 0 ∈ zs := by rw [List.getD, List.getElem?_eq_getElem (by omega)]; simp
          exact bounds_u8 (HZ.out.2.2.1 _ this)
        clear hcell
        generalize zs.getD j 0 = z at *
        have hne : b ≠ bm := Blk.ne_ hc hm (by decide)
        have HC := Lib.hid hc
        have HM := Lib.hid hm
        have HB := Lib.hid hb
        have m0 := Blk.cell hm 0
        have m1 := Blk.cell hm 1
        have m2 := Blk.cell hm 2
        have HCJ := Lib.hid hcj
        have hzz : z = 0 ∨ z = 1 ∨ (1 < z) := by omega
        clear hc hm hb hcj
        simp at m0 m1 m2
        rcases Bool.eq_false_or_eq_true cl with rfl | rfl
        · rcases hzz with rfl | rfl | hz1
          · go_wp2_with fail
            refine (rpeek_closed _ _ _).mono ?_
            rintro e w5 ⟨rfl, hb5⟩
            have hc5 : Ctr w5 b (top x + k) k true := HC.out.below hb5
            have hm5 : Blk w5 bm 36 #[.int .u64 (top x), .int .u64 k, .bool true] := HM.out.below hb5 HM.out.lt
            have hcj5 : w5.cell? ⟨ba, off + j, none⟩ = some (.int .u8 0) := (hb5.cell (p := ⟨ba, off + j, none⟩) (by have := HB.out.size; simp; omega)).trans ((HB.out.cell (p := ⟨ba, off + j, none⟩) hlba).trans HCJ.out)
            have hw5 : Below w.heap.size w w5 := HB.out.trans (hb5.mono HB.out.size)
            have n0 := Blk.cell hm5 0
            have n1 := Blk.cell hm5 1
            have n2 := Blk.cell hm5 2
            have f1 := Blk.frozen hm5 1
            have f2 := Blk.frozen hm5 2
            clear m0 m1 m2 hb5
            simp at n0 n1 n2
            go_wp2_with (first | (go_at_call 16; refine (peek_closed _ _ _ _ hc5).mono ?_; rintro e w8 ⟨rfl, rfl⟩) | (go_at_call 11; refine (told_err _ _ (by omega)).mono ?_; rintro e w8 ⟨rfl, rfl⟩) | (go_at_call 10; refine (next_closed _ _ _ _ hc5).mono ?_; rintro e w8 ⟨rfl, rfl⟩))
            go_quiet ((first | (go_at_call 12; exact quiet_left (given_any _ _ _ _ _ (Ctr.drewN hc5 _))) | (go_at_call 13; exact quiet_left (left_shut _ _ _ _ (Ctr.drewN hc5 _) (by omega) (by omega)))))
            go_wp2_with fail
            go_roundw
            case rel => exact ⟨j + 1, k, true, by omega, by go_num, by omega, by omega, ⟨Ctr.drewN (hc5.eq (by omega) (by omega)) _, hm5.drewN _⟩, below_drewN hw5 _⟩
            case measure => simp [intOf]; omega
          · go_wp2_with fail
            refine (rpeek_closed _ _ _).mono ?_
            rintro e w5 ⟨rfl, hb5⟩
            have hc5 : Ctr w5 b (top x + k) k true := HC.out.below hb5
            have hm5 : Blk w5 bm 36 #[.int .u64 (top x), .int .u64 k, .bool true] := HM.out.below hb5 HM.out.lt
            have hcj5 : w5.cell? ⟨ba, off + j, none⟩ = some (.int .u8 1) := (hb5.cell (p := ⟨ba, off + j, none⟩) (by have := HB.out.size; simp; omega)).trans ((HB.out.cell (p := ⟨ba, off + j, none⟩) hlba).trans HCJ.out)
            have hw5 : Below w.heap.size w w5 := HB.out.trans (hb5.mono HB.out.size)
            have n0 := Blk.cell hm5 0
            have n1 := Blk.cell hm5 1
            have n2 := Blk.cell hm5 2
            have f1 := Blk.frozen hm5 1
            have f2 := Blk.frozen hm5 2
            clear m0 m1 m2 hb5
            simp at n0 n1 n2
            go_wp2_with (first | (go_at_call 16; refine (peek_closed _ _ _ _ hc5).mono ?_; rintro e w8 ⟨rfl, rfl⟩) | (go_at_call 11; refine (told_err _ _ (by omega)).mono ?_; rintro e w8 ⟨rfl, rfl⟩))
            refine (close_any _ _ _ _ _ hc5).mono ?_
            rintro e w6 ⟨rfl, hc6, hg6⟩
            have hm6 := hm5.only hg6 hne.symm
            have hw6 := below_only hw5 hg6 hw5.size hlb'
            clear n0 n1 n2 f1 f2
            have n0 := Blk.cell hm6 0
            have n1 := Blk.cell hm6 1
            have n2 := Blk.cell hm6 2
            have f2 := Blk.frozen hm6 2
            simp at n0 n1 n2
            clear hcj5
            have hc7 : Ctr (w6.setCell ⟨bm, 2, none⟩ (.bool true)) b (top x + ↑k) ↑k true := Blk.far hc6 hne _
            have hm7 := hm6.set_ 2 (.bool true)
            have hw7 := hw6.setCell (p := ⟨bm, 2, none⟩) hlm (.bool true)
            go_wp2_with fail
            go_quiet ((first | (go_at_call 12; exact quiet_left (given_any _ _ _ _ _ (Ctr.drewN hc7 _))) | (go_at_call 13; exact quiet_left (left_shut _ _ _ _ (Ctr.drewN hc7 _) (by omega) (by omega)))))
            go_wp2_with fail
            go_roundw
            case rel => exact ⟨j + 1, k, true, by omega, by go_num, by omega, by omega, ⟨Ctr.drewN (hc7.eq (by omega) (by omega)) _, hm7.drewN _⟩, below_drewN hw7 _⟩
            case measure => simp [intOf]; omega
          · go_wp2_with fail
            refine (rpeek_closed _ _ _).mono ?_
            rintro e w5 ⟨rfl, hb5⟩
            have hc5 : Ctr w5 b (top x + k) k true := HC.out.below hb5
            have hm5 : Blk w5 bm 36 #[.int .u64 (top x), .int .u64 k, .bool true] := HM.out.below hb5 HM.out.lt
            have hcj5 : w5.cell? ⟨ba, off + j, none⟩ = some (.int .u8 z) := (hb5.cell (p := ⟨ba, off + j, none⟩) (by have := HB.out.size; simp; omega)).trans ((HB.out.cell (p := ⟨ba, off + j, none⟩) hlba).trans HCJ.out)
            have hw5 : Below w.heap.size w w5 := HB.out.trans (hb5.mono HB.out.size)
            have n0 := Blk.cell hm5 0
            have n1 := Blk.cell hm5 1
            have n2 := Blk.cell hm5 2
            have f1 := Blk.frozen hm5 1
            have f2 := Blk.frozen hm5 2
            clear m0 m1 m2 hb5
            simp at n0 n1 n2
            have z0 : (z == 0) = false := by simp; omega
            have z1 : (z == 1) = false := by simp; omega
            go_wp2_with (first | (go_at_call 16; refine (peek_closed _ _ _ _ hc5).mono ?_; rintro e w8 ⟨rfl, rfl⟩) | (go_at_call 11; refine (told_err _ _ (by omega)).mono ?_; rintro e w8 ⟨rfl, rfl⟩))
            go_quiet ((first | (go_at_call 12; exact quiet_left (given_any _ _ _ _ _ (Ctr.drewN hc5 _))) | (go_at_call 13; exact quiet_left (left_shut _ _ _ _ (Ctr.drewN hc5 _) (by omega) (by omega)))))
            go_wp2_with fail
            go_roundw
            case rel => exact ⟨j + 1, k, true, by omega, by go_num, by omega, by omega, ⟨Ctr.drewN (hc5.eq (by omega) (by omega)) _, hm5.drewN _⟩, below_drewN hw5 _⟩
            case measure => simp [intOf]; omega
        · by_cases ho : top x + k = 9223372036854775807
          · have HO := Lib.hid ho
            clear ho
            rcases hzz with rfl | rfl | hz1
            · go_wp2_with fail
              refine (rpeek_out _ _ _ (by omega) (by omega) HO.out).mono ?_
              rintro e w5 ⟨rfl, hb5⟩
              have hc5 : Ctr w5 b (top x + k) k false := HC.out.below hb5
              have hm5 : Blk w5 bm 36 #[.int .u64 (top x), .int .u64 k, .bool false] := HM.out.below hb5 HM.out.lt
              have hcj5 : w5.cell? ⟨ba, off + j, none⟩ = some (.int .u8 0) := (hb5.cell (p := ⟨ba, off + j, none⟩) (by have := HB.out.size; simp; omega)).trans ((HB.out.cell (p := ⟨ba, off + j, none⟩) hlba).trans HCJ.out)
              have hw5 : Below w.heap.size w w5 := HB.out.trans (hb5.mono HB.out.size)
              have n0 := Blk.cell hm5 0
              have n1 := Blk.cell hm5 1
              have n2 := Blk.cell hm5 2
              have f1 := Blk.frozen hm5 1
              have f2 := Blk.frozen hm5 2
              clear m0 m1 m2 hb5
              simp at n0 n1 n2
              have hc5x : Ctr w5 b 9223372036854775807 k false := hc5.eq HO.out rfl
              go_wp2_with (first | (go_at_call 16; refine (peek_out _ _ _ hc5x).mono ?_; rintro e w8 ⟨rfl, rfl⟩) | (go_at_call 11; refine (told_err _ _ (by omega)).mono ?_; rintro e w8 ⟨rfl, rfl⟩) | (go_at_call 10; refine (next_out _ _ _ hc5x).mono ?_; rintro e w8 ⟨rfl, rfl⟩))
              go_quiet ((first | (go_at_call 12; exact quiet_left (given_any _ _ _ _ _ (Ctr.drewN hc5 _))) | (go_at_call 13; exact quiet_left (left_open _ _ _ _ _ (Ctr.drewN hc5 _) (by omega) (by omega) (by omega)))))
              go_wp2_with fail
              go_roundw
              case rel => exact ⟨j + 1, k, false, by omega, by go_num, by omega, by omega, ⟨Ctr.drewN (hc5.eq (by omega) (by omega)) _, hm5.drewN _⟩, below_drewN hw5 _⟩
              case measure => simp [intOf]; omega
            · go_wp2_with fail
              refine (rpeek_out _ _ _ (by omega) (by omega) HO.out).mono ?_
              rintro e w5 ⟨rfl, hb5⟩
              have hc5 : Ctr w5 b (top x + k) k false := HC.out.below hb5
              have hm5 : Blk w5 bm 36 #[.int .u64 (top x), .int .u64 k, .bool false] := HM.out.below hb5 HM.out.lt
              have hcj5 : w5.cell? ⟨ba, off + j, none⟩ = some (.int .u8 1) := (hb5.cell (p := ⟨ba, off + j, none⟩) (by have := HB.out.size; simp; omega)).trans ((HB.out.cell (p := ⟨ba, off + j, none⟩) hlba).trans HCJ.out)
              have hw5 : Below w.heap.size w w5 := HB.out.trans (hb5.mono HB.out.size)
              have n0 := Blk.cell hm5 0
              have n1 := Blk.cell hm5 1
              have n2 := Blk.cell hm5 2
              have f1 := Blk.frozen hm5 1
              have f2 := Blk.frozen hm5 2
              clear m0 m1 m2 hb5
              simp at n0 n1 n2
              have hc5x : Ctr w5 b 9223372036854775807 k false := hc5.eq HO.out rfl
              go_wp2_with (first | (go_at_call 16; refine (peek_out _ _ _ hc5x).mono ?_; rintro e w8 ⟨rfl, rfl⟩) | (go_at_call 11; refine (told_err _ _ (by omega)).mono ?_; rintro e w8 ⟨rfl, rfl⟩))
              refine (close_any _ _ _ _ _ hc5).mono ?_
              rintro e w6 ⟨rfl, hc6, hg6⟩
              have hm6 := hm5.only hg6 hne.symm
              have hw6 := below_only hw5 hg6 hw5.size hlb'
              clear n0 n1 n2 f1 f2
              have n0 := Blk.cell hm6 0
              have n1 := Blk.cell hm6 1
              have n2 := Blk.cell hm6 2
              have f2 := Blk.frozen hm6 2
              simp at n0 n1 n2
              clear hcj5
              have hc7 : Ctr (w6.setCell ⟨bm, 2, none⟩ (.bool true)) b (top x + ↑k) ↑k true := Blk.far hc6 hne _
              have hm7 := hm6.set_ 2 (.bool true)
              have hw7 := hw6.setCell (p := ⟨bm, 2, none⟩) hlm (.bool true)
              go_wp2_with fail
              go_quiet ((first | (go_at_call 12; exact quiet_left (given_any _ _ _ _ _ (Ctr.drewN hc7 _))) | (go_at_call 13; exact quiet_left (left_shut _ _ _ _ (Ctr.drewN hc7 _) (by omega) (by omega)))))
              go_wp2_with fail
              go_roundw
              case rel => exact ⟨j + 1, k, true, by omega, by go_num, by omega, by omega, ⟨Ctr.drewN (hc7.eq (by omega) (by omega)) _, hm7.drewN _⟩, below_drewN hw7 _⟩
              case measure => simp [intOf]; omega
            · go_wp2_with fail
              refine (rpeek_out _ _ _ (by omega) (by omega) HO.out).mono ?_
              rintro e w5 ⟨rfl, hb5⟩
              have hc5 : Ctr w5 b (top x + k) k false := HC.out.below hb5
              have hm5 : Blk w5 bm 36 #[.int .u64 (top x), .int .u64 k, .bool false] := HM.out.below hb5 HM.out.lt
              have hcj5 : w5.cell? ⟨ba, off + j, none⟩ = some (.int .u8 z) := (hb5.cell (p := ⟨ba, off + j, none⟩) (by have := HB.out.size; simp; omega)).trans ((HB.out.cell (p := ⟨ba, off + j, none⟩) hlba).trans HCJ.out)
              have hw5 : Below w.heap.size w w5 := HB.out.trans (hb5.mono HB.out.size)
              have n0 := Blk.cell hm5 0
              have n1 := Blk.cell hm5 1
              have n2 := Blk.cell hm5 2
              have f1 := Blk.frozen hm5 1
              have f2 := Blk.frozen hm5 2
              clear m0 m1 m2 hb5
              simp at n0 n1 n2
              have hc5x : Ctr w5 b 9223372036854775807 k false := hc5.eq HO.out rfl
              have z0 : (z == 0) = false := by simp; omega
              have z1 : (z == 1) = false := by simp; omega
              go_wp2_with (first | (go_at_call 16; refine (peek_out _ _ _ hc5x).mono ?_; rintro e w8 ⟨rfl, rfl⟩) | (go_at_call 11; refine (told_err _ _ (by omega)).mono ?_; rintro e w8 ⟨rfl, rfl⟩))
              go_quiet ((first | (go_at_call 12; exact quiet_left (given_any _ _ _ _ _ (Ctr.drewN hc5 _))) | (go_at_call 13; exact quiet_left (left_open _ _ _ _ _ (Ctr.drewN hc5 _) (by omega) (by omega) (by omega)))))
              go_wp2_with fail
              go_roundw
              case rel => exact ⟨j + 1, k, false, by omega, by go_num, by omega, by omega, ⟨Ctr.drewN (hc5.eq (by omega) (by omega)) _, hm5.drewN _⟩, below_drewN hw5 _⟩
              case measure => simp [intOf]; omega
          · have ho' : top x + k < 9223372036854775807 := by omega
            clear ho
            rcases hzz with rfl | rfl | hz1
            · go_wp2_with fail
              refine (rpeek_ok _ _ _ (by omega) (by omega) (by omega)).mono ?_
              rintro e w5 ⟨rfl, hb5⟩
              have hc5 : Ctr w5 b (top x + k) k false := HC.out.below hb5
              have hm5 : Blk w5 bm 36 #[.int .u64 (top x), .int .u64 k, .bool false] := HM.out.below hb5 HM.out.lt
              have hcj5 : w5.cell? ⟨ba, off + j, none⟩ = some (.int .u8 0) := (hb5.cell (p := ⟨ba, off + j, none⟩) (by have := HB.out.size; simp; omega)).trans ((HB.out.cell (p := ⟨ba, off + j, none⟩) hlba).trans HCJ.out)
              have hw5 : Below w.heap.size w w5 := HB.out.trans (hb5.mono HB.out.size)
              have n0 := Blk.cell hm5 0
              have n1 := Blk.cell hm5 1
              have n2 := Blk.cell hm5 2
              have f1 := Blk.frozen hm5 1
              have f2 := Blk.frozen hm5 2
              clear m0 m1 m2 hb5
              simp at n0 n1 n2
              go_wp2_with (first | (go_at_call 16; refine (peek_ok _ _ _ _ hc5 (by omega)).mono ?_; rintro e w8 ⟨rfl, rfl⟩) | (go_at_call 11; refine (told_ok _).mono ?_; rintro e w8 ⟨rfl, rfl⟩))
              refine (next_ok _ _ _ _ hc5 (by omega) (by omega) (by omega) (by omega)).mono ?_
              rintro e w6 ⟨rfl, hc6, hg6⟩
              have hm6 := hm5.only hg6 hne.symm
              have hw6 := below_only hw5 hg6 hw5.size hlb'
              have hcj6 : w6.cell? ⟨ba, off + j, none⟩ = some (.int .u8 0) := (hw6.cell (p := ⟨ba, off + j, none⟩) hlba).trans HCJ.out
              clear n0 n1 n2 f1 f2
              have n0 := Blk.cell hm6 0
              have n1 := Blk.cell hm6 1
              have n2 := Blk.cell hm6 2
              have f1 := Blk.frozen hm6 1
              simp at n0 n1 n2
              clear hcj5
              have hc7 : Ctr (w6.setCell ⟨bm, 1, none⟩ (.int .u64 (↑k + 1))) b (top x + (↑k + 1)) (↑k + 1) false := (show Ctr _ b _ _ _ from Blk.far hc6 hne _).eq (by omega) rfl
              have hm7 := hm6.set_ 1 (.int .u64 (↑k + 1))
              have hw7 := hw6.setCell (p := ⟨bm, 1, none⟩) hlm (.int .u64 (↑k + 1))
              go_wp2_with (first | (go_at_call 11; refine (told_ok _).mono ?_; rintro e w8 ⟨rfl, rfl⟩))
              go_quiet ((first | (go_at_call 12; exact quiet_left (given_any _ _ _ _ _ (Ctr.drewN hc7 _))) | (go_at_call 13; exact quiet_left (left_open _ _ _ _ _ (Ctr.drewN hc7 _) (by omega) (by omega) (by omega)))))
              go_wp2_with fail
              go_roundw
              case rel => exact ⟨j + 1, k + 1, false, by omega, by go_num, by omega, by omega, ⟨Ctr.drewN (hc7.eq (by omega) (by omega)) _, hm7.drewN _⟩, below_drewN hw7 _⟩
              case measure => simp [intOf]; omega
            · go_wp2_with fail
              refine (rpeek_ok _ _ _ (by omega) (by omega) (by omega)).mono ?_
              rintro e w5 ⟨rfl, hb5⟩
              have hc5 : Ctr w5 b (top x + k) k false := HC.out.below hb5
              have hm5 : Blk w5 bm 36 #[.int .u64 (top x), .int .u64 k, .bool false] := HM.out.below hb5 HM.out.lt
              have hcj5 : w5.cell? ⟨ba, off + j, none⟩ = some (.int .u8 1) := (hb5.cell (p := ⟨ba, off + j, none⟩) (by have := HB.out.size; simp; omega)).trans ((HB.out.cell (p := ⟨ba, off + j, none⟩) hlba).trans HCJ.out)
              have hw5 : Below w.heap.size w w5 := HB.out.trans (hb5.mono HB.out.size)
              have n0 := Blk.cell hm5 0
              have n1 := Blk.cell hm5 1
              have n2 := Blk.cell hm5 2
              have f1 := Blk.frozen hm5 1
              have f2 := Blk.frozen hm5 2
              clear m0 m1 m2 hb5
              simp at n0 n1 n2
              go_wp2_with (first | (go_at_call 16; refine (peek_ok _ _ _ _ hc5 (by omega)).mono ?_; rintro e w8 ⟨rfl, rfl⟩) | (go_at_call 11; refine (told_ok _).mono ?_; rintro e w8 ⟨rfl, rfl⟩))
              refine (close_any _ _ _ _ _ hc5).mono ?_
              rintro e w6 ⟨rfl, hc6, hg6⟩
              have hm6 := hm5.only hg6 hne.symm
              have hw6 := below_only hw5 hg6 hw5.size hlb'
              clear n0 n1 n2 f1 f2
              have n0 := Blk.cell hm6 0
              have n1 := Blk.cell hm6 1
              have n2 := Blk.cell hm6 2
              have f2 := Blk.frozen hm6 2
              simp at n0 n1 n2
              clear hcj5
              have hc7 : Ctr (w6.setCell ⟨bm, 2, none⟩ (.bool true)) b (top x + ↑k) ↑k true := Blk.far hc6 hne _
              have hm7 := hm6.set_ 2 (.bool true)
              have hw7 := hw6.setCell (p := ⟨bm, 2, none⟩) hlm (.bool true)
              go_wp2_with fail
              go_quiet ((first | (go_at_call 12; exact quiet_left (given_any _ _ _ _ _ (Ctr.drewN hc7 _))) | (go_at_call 13; exact quiet_left (left_shut _ _ _ _ (Ctr.drewN hc7 _) (by omega) (by omega)))))
              go_wp2_with fail
              go_roundw
              case rel => exact ⟨j + 1, k, true, by omega, by go_num, by omega, by omega, ⟨Ctr.drewN (hc7.eq (by omega) (by omega)) _, hm7.drewN _⟩, below_drewN hw7 _⟩
              case measure => simp [intOf]; omega
            · go_wp2_with fail
              refine (rpeek_ok _ _ _ (by omega) (by omega) (by omega)).mono ?_
              rintro e w5 ⟨rfl, hb5⟩
              have hc5 : Ctr w5 b (top x + k) k false := HC.out.below hb5
              have hm5 : Blk w5 bm 36 #[.int .u64 (top x), .int .u64 k, .bool false] := HM.out.below hb5 HM.out.lt
              have hcj5 : w5.cell? ⟨ba, off + j, none⟩ = some (.int .u8 z) := (hb5.cell (p := ⟨ba, off + j, none⟩) (by have := HB.out.size; simp; omega)).trans ((HB.out.cell (p := ⟨ba, off + j, none⟩) hlba).trans HCJ.out)
              have hw5 : Below w.heap.size w w5 := HB.out.trans (hb5.mono HB.out.size)
              have n0 := Blk.cell hm5 0
              have n1 := Blk.cell hm5 1
              have n2 := Blk.cell hm5 2
              have f1 := Blk.frozen hm5 1
              have f2 := Blk.frozen hm5 2
              clear m0 m1 m2 hb5
              simp at n0 n1 n2
              have z0 : (z == 0) = false := by simp; omega
              have z1 : (z == 1) = false := by simp; omega
              go_wp2_with (first | (go_at_call 16; refine (peek_ok _ _ _ _ hc5 (by omega)).mono ?_; rintro e w8 ⟨rfl, rfl⟩) | (go_at_call 11; refine (told_ok _).mono ?_; rintro e w8 ⟨rfl, rfl⟩))
              go_quiet ((first | (go_at_call 12; exact quiet_left (given_any _ _ _ _ _ (Ctr.drewN hc5 _))) | (go_at_call 13; exact quiet_left (left_open _ _ _ _ _ (Ctr.drewN hc5 _) (by omega) (by omega) (by omega)))))
              go_wp2_with fail
              go_roundw
              case rel => exact ⟨j + 1, k, false, by omega, by go_num, by omega, by omega, ⟨Ctr.drewN (hc5.eq (by omega) (by omega)) _, hm5.drewN _⟩, below_drewN hw5 _⟩
              case measure => simp [intOf]; omega
      · have HC := Lib.hid hb
        clear hc hm hb
        go_wp2_with fail
        go_ret
        exact ⟨rfl, HC.out⟩
end Go.Proofs.Ythdaehledkpbhaa
