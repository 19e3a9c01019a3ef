import Derived.Test.YtdggedgailkceaaHlv
namespace Go.Proofs.Ytdggedgailkceaa
open Go.ChangeShapes Go.WideShapes Go.ChangeAt Go.RowKit
set_option linter.unusedVariables false
set_option linter.unusedSimpArgs false
/-- The number of bits that a call goes by. -/
def cut (n : Int) : Nat := (min (max n 0) 64).toNat
theorem cut_le (n : Int) : cut n ≤ 64 := by unfold cut; omega
theorem cut_eq (n : Int) : (if 64 < if n < 0 then 0 else n then 64 else if n < 0 then 0 else n) = (cut n : Int) := by
  unfold cut; split <;> split <;> omega
def sb (l : List Nat) (m i : Nat) : Nat := l.getD (i + m / 8) 0 * 2 ^ (m % 8) % 256 ||| (if m % 8 = 0 then 0 else l.getD (i + m / 8 + 1) 0 / 2 ^ (8 - m % 8))
theorem sb_lt {l : List Nat} (h : ∀ x ∈ l, x < 256) (m i : Nat) : sb l m i < 256 := or_lt (by omega) (by
  split
  · omega
  · have := getD_lt h (i + m / 8 + 1); exact Nat.lt_of_le_of_lt (Nat.div_le_self _ _) this)
set_option maxRecDepth 100000 in
theorem shift_any (l : List Nat) (n : Int) (w : World) (ha : l.length = 24) (ha2 : ∀ x ∈ l, x < 256) :
    Calls Try.prog 9 #[.agg (vc l), .int .i64 n] w fun e w' => e = .returned (.agg (vc ((List.range 16).map (sb l (cut n))))) ∧ Below w.heap.size w w' := by
  have H2 := Lib.hid ha2
  have H1 := Lib.hid ha
  clear ha ha2
  have HC9 := Lib.hid (cut_eq n)
  have hm := cut_le n
  go_enter Try.func9, Try.ntmps9
  go_upto_region 2 with (fail)
  rw [HC9.out, zeros_vc]
  clear HC9
  generalize (if n < 0 then 0 else n) = nn
  obtain ⟨m, hmm⟩ : ∃ m, cut n = m := ⟨_, rfl⟩
  rw [hmm] at hm ⊢
  have HM := Lib.hid hmm
  clear hmm
  have hA : Blk (((w.alloc (.cells (vc l) 22)).alloc (.cells (vc zeros) 24)).alloc (.cells (vc zeros) 24)) w.heap.size 22 (vc l) := ((Blk.new w 22 (vc l)).alloc _).alloc _
  have hB : Blk (((w.alloc (.cells (vc l) 22)).alloc (.cells (vc zeros) 24)).alloc (.cells (vc zeros) 24)) (w.heap.size + 1) 24 (vc zeros) := by have := (Blk.new (w.alloc (.cells (vc l) 22)) 24 (vc zeros)).alloc (.cells (vc zeros) 24); simpa using this
  have hC : Blk (((w.alloc (.cells (vc l) 22)).alloc (.cells (vc zeros) 24)).alloc (.cells (vc zeros) 24)) (w.heap.size + 1 + 1) 24 (vc zeros) := by have := Blk.new ((w.alloc (.cells (vc l) 22)).alloc (.cells (vc zeros) 24)) 24 (vc zeros); simpa using this
  have hb : Below w.heap.size w (((w.alloc (.cells (vc l) 22)).alloc (.cells (vc zeros) 24)).alloc (.cells (vc zeros) 24)) := by go_grown
  have HA := Lib.hid hA
  have HB := Lib.hid hB
  have HC := Lib.hid hC
  have HBE := Lib.hid hb
  clear hA hB hC hb
  go_wp2_with fail
  rw [zeros_vc]
  go_loopw [12] (fun i wr => ∃ (j : Nat), j ≤ 16 ∧ i = .int .i64 j ∧ Blk wr w.heap.size 22 (vc l) ∧ Blk wr (w.heap.size + 1) 24 (vc zeros) ∧ Blk wr (w.heap.size + 1 + 1) 24 (vc (fill (sb l m) j)) ∧ Below w.heap.size w wr) (fun i _ => 16 - (intOf i).toNat)
  case atStart => exact ⟨0, by omega, rfl, HA.out, HB.out, by rw [fill_0]; exact HC.out, HBE.out⟩
  case round =>
    clear HA HB HC HBE
    obtain ⟨j, hj, rfl, hA, hB, hC, hbel⟩ := hrel
    have HA := Lib.hid hA
    have HB := Lib.hid hB
    have HC := Lib.hid hC
    have HBE := Lib.hid hbel
    by_cases hlt : j < 16
    · have c0 := (Blk.cell hA (j + m / 8)).trans (vc_get _ (j + m / 8) (by rw [H1.out]; omega))
      have c2 := (Blk.cell hC j).trans (vc_get _ j (by rw [fill_len]; omega))
      have f2 := Blk.frozen hC j
      have hst : (fill (sb l m) j).set j (sb l m j) = fill (sb l m) (j + 1) := fill_next (sb l m) j hlt
      have hx9 := getD_lt H2.out (j + m / 8)
      have hy9 := getD_lt H2.out (j + m / 8 + 1)
      by_cases h0 : m % 8 = 0
      · have hst2 : (fill (sb l m) j).set j (l.getD (j + m / 8) 0) = fill (sb l m) (j + 1) := by
          rw [← hst]; unfold sb; rw [if_pos h0, h0, Nat.pow_zero, Nat.mul_one, Nat.mod_eq_of_lt hx9, Nat.or_zero]
        obtain ⟨a, haa⟩ : ∃ a, l.getD (j + m / 8) 0 = a := ⟨_, rfl⟩
        rw [haa] at c0 hst2 hx9
        have HST := Lib.hid hst2
        clear haa hA hB hC hbel hst hst2
        have hk0 : (m : Int) % 8 = 0 := by omega
        have hmod : (a : Int) % 256 = a := by omega
        go_wp2_with fail
        go_roundw
        case rel => exact ⟨j + 1, by omega, by go_num, Blk.far HA.out (by simp; omega) _, Blk.far HB.out (by simp) _, by rw [← HST.out, ← vc_set]; exact Blk.set_ HC.out j _, HBE.out.setCell (by simp; omega) _⟩
        case measure => simp [intOf]; omega
      · have c1 := (Blk.cell hA (j + m / 8 + 1)).trans (vc_get _ (j + m / 8 + 1) (by rw [H1.out]; omega))
        have hst2 : (fill (sb l m) j).set j (l.getD (j + m / 8) 0 * 2 ^ (m % 8) % 256 ||| l.getD (j + m / 8 + 1) 0 / 2 ^ (8 - m % 8)) = fill (sb l m) (j + 1) := by
          rw [← hst]; unfold sb; rw [if_neg h0]
        obtain ⟨a, haa⟩ : ∃ a, l.getD (j + m / 8) 0 = a := ⟨_, rfl⟩
        obtain ⟨y, hy⟩ : ∃ y, l.getD (j + m / 8 + 1) 0 = y := ⟨_, rfl⟩
        rw [haa] at c0 hst2 hx9
        rw [hy] at c1 hst2 hy9
        have HST := Lib.hid hst2
        clear haa hy hA hB hC hbel hst hst2
        have hk1 : (0 : Int) < (m : Int) % 8 := by omega
        have hk2 : (m : Int) % 8 < 8 := by omega
        have hj1 : (j : Int) + (m : Int) / 8 + 1 < 24 := by omega
        have hj0 : (0 : Int) ≤ (j : Int) + (m : Int) / 8 + 1 := by omega
        have hor : bits .or .u8 ((a : Int) * 2 ^ (m % 8) % 256) ((y : Int) / 2 ^ (8 - m % 8)) = ((a * 2 ^ (m % 8) % 256 ||| y / 2 ^ (8 - m % 8) : Nat) : Int) := by
          have := u8_or_nat (a * 2 ^ (m % 8) % 256) (y / 2 ^ (8 - m % 8)) (by omega) (Nat.lt_of_le_of_lt (Nat.div_le_self _ _) hy9)
          push_cast at this
          exact this
        have HOR := Lib.hid hor
        clear hor
        go_wp2_with fail
        have hwj : IntKind.i64.wrap ((j : Int) + (m : Int) / 8 + 1) = (j : Int) + (m : Int) / 8 + 1 := IntWalk.i64_in _ (by omega)
        have htj : ((j : Int) + (m : Int) / 8 + 1).toNat = j + m / 8 + 1 := by omega
        have hw8 : IntKind.u64.wrap (8 - (m : Int) % 8) = 8 - (m : Int) % 8 := by rw [IntKind.wrap_u64]; omega
        have ht8 : (8 - (m : Int) % 8).toNat = 8 - m % 8 := by omega
        refine region_tail 12 (by kernel_rfl) (by kernel_rfl) ?_
        simp only [List.take_succ_cons, List.take_zero, List.drop_succ_cons, List.drop_zero]
        iterate 12 still_step
        refine wpStill_nil ?_
        clear hwj htj hw8 ht8
        rw [HOR.out]
        go_wp2_with fail
        go_roundw
        case rel => exact ⟨j + 1, by omega, by go_num, Blk.drew (Blk.far (Blk.far HA.out (by simp; omega) _) (by simp; omega) _), Blk.drew (Blk.far (Blk.far HB.out (by simp) _) (by simp) _), by rw [← HST.out, ← vc_set2]; exact Blk.drew (Blk.set_ (Blk.set_ HC.out j _) j _), ((HBE.out.setCell (by simp; omega) _).setCell (by simp; omega) _).drew⟩
        case measure => simp [intOf]; omega
    · obtain rfl : j = 16 := by omega
      have hl16 : ((List.range 16).map (sb l m)).length = 16 := by simp
      have hfa := fill_all (sb l m)
      rw [hfa] at hC
      obtain ⟨v, hv⟩ : ∃ v, (List.range 16).map (sb l m) = v := ⟨_, rfl⟩
      rw [hv] at hC hl16
      have HL := Lib.hid hl16
      have HV := Lib.hid hv
      have HC1 := Lib.hid hC
      have HB1 := Lib.hid hB
      clear hA hB hC hbel hl16 hv hfa HC HB
      go_upto_region 11 with (fail)
      go_wp2_with (first | (refine wpList_load_mid rfl 24 (.tmp 5) rfl (w.heap.size + 1 + 1) 0 rfl (vc v).toList (.array 16 5) (Blk.rangeAt HC1.out) Try.underlying24 rfl (info16 HL.out) ?_) | (refine wpList_store_mid rfl 24 (.tmp 4) (.tmp 44) rfl (w.heap.size + 1) 0 (vc v) rfl rfl (Blk.there HB1.out (by rw [vc_size, HL.out]; rfl)) (info16' HL.out) (vc_one _) ?_))
      have hB2 := Blk.setAll HB1.out (cs' := vc v) (by rw [vc_size, vc_size, HL.out]; rfl)
      refine bodyPost_ret (results_cell_row rfl _ _ (w.heap.size + 1) 24 _ (0, 0) (.array 16 5) rfl hB2 Try.underlying24 rfl (info16' HL.out)) rfl ⟨by rw [HM.out, HV.out], below_setCells _ _ _ HBE.out (by omega)⟩
end Go.Proofs.Ytdggedgailkceaa
