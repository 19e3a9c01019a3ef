import Derived.Test.YtdggedgailkceaaDbl
namespace Go.Proofs.Ytdggedgailkceaa
open Go.ChangeShapes Go.WideShapes Go.ChangeAt Go.RowKit
set_option linter.unusedVariables false
set_option linter.unusedSimpArgs false
def hb (q : List Nat) (i : Nat) : Nat := q.getD i 0 / 2 ||| (if i = 0 then 0 else q.getD (i - 1) 0 * 128 % 256)
def hq (l : List Nat) : List Nat := l.set 15 (l.getD 15 0 ^^^ (l.getD 15 0 % 2 * 135))
def hlv (l : List Nat) : List Nat := ((List.range 16).map (hb (hq l))).set 0 (hb (hq l) 0 ||| l.getD 15 0 % 2 * 128)
theorem hb_lt {l : List Nat} (h : ∀ x ∈ l, x < 256) (i : Nat) : hb l i < 256 := or_lt (by have := getD_lt h i; omega) (by split <;> omega)
theorem hq_len (l : List Nat) : (hq l).length = l.length := by simp [hq]
theorem hq_lt {l : List Nat} (h : ∀ x ∈ l, x < 256) : ∀ x ∈ hq l, x < 256 := by
  intro x hx
  rcases List.mem_or_eq_of_mem_set hx with h1 | rfl
  · exact h x h1
  · exact xor_lt (getD_lt h 15) (by omega)
theorem odd_bits : (List.range 256).all (fun a => bits .and .u8 (a : Int) 1 == ((a % 2 : Nat) : Int)) = true := by decide +kernel
theorem odd_bits_at (a : Nat) (h : a < 256) : bits .and .u8 (a : Int) 1 = ((a % 2 : Nat) : Int) := by
  have := List.all_eq_true.1 odd_bits a (by simpa using h)
  simpa using this
set_option maxRecDepth 100000 in
theorem halve_any (l : List Nat) (w : World) (ha : l.length = 16) (ha2 : ∀ x ∈ l, x < 256) :
    Calls Try.prog 21 #[.agg (vc l)] w fun e w' => e = .returned (.agg (vc (hlv l))) ∧ Below w.heap.size w w' := by
  have ql := hq_len l
  have q2 := hq_lt ha2
  obtain ⟨v, hv⟩ : ∃ v, hlv l = v := ⟨_, rfl⟩
  have HV := Lib.hid hv
  clear hv
  have H2 := Lib.hid ha2
  have H1 := Lib.hid ha
  have Q1 := Lib.hid (ql.trans ha)
  have Q2 := Lib.hid q2
  clear ha ha2 ql q2
  go_enter Try.func21, Try.ntmps21
  go_upto_region 1 with (fail)
  rw [zeros_vc]
  have hA : Blk ((w.alloc (.cells (vc l) 24)).alloc (.cells (vc zeros) 24)) w.heap.size 24 (vc l) := (Blk.new w 24 (vc l)).alloc _
  have hB : Blk ((w.alloc (.cells (vc l) 24)).alloc (.cells (vc zeros) 24)) (w.heap.size + 1) 24 (vc zeros) := by have := Blk.new (w.alloc (.cells (vc l) 24)) 24 (vc zeros); simpa using this
  have hs : ((w.alloc (.cells (vc l) 24)).alloc (.cells (vc zeros) 24)).heap.size = w.heap.size + 1 + 1 := by simp
  have hb : Below w.heap.size w ((w.alloc (.cells (vc l) 24)).alloc (.cells (vc zeros) 24)) := by go_grown
  obtain ⟨w1, hw1⟩ : ∃ w1, (w.alloc (.cells (vc l) 24)).alloc (.cells (vc zeros) 24) = w1 := ⟨_, rfl⟩
  rw [hw1] at hA hB hs hb ⊢
  clear hw1
  have c0 := (Blk.cell hA 15).trans (vc_get l 15 (by rw [H1.out]; omega))
  have f0 := Blk.frozen hA 15
  have hx9 := getD_lt H2.out 15
  have hq15 : (vc l).setIfInBounds 15 (.int .u8 ((l.getD 15 0 ^^^ (l.getD 15 0 % 2 * 135) : Nat) : Int)) = vc (hq l) := vc_set _ _ _
  have hV : HV.out = HV.out := rfl
  have HA := Lib.hid hA
  have HB := Lib.hid hB
  have HBE := Lib.hid hb
  obtain ⟨x, hx⟩ : ∃ x, l.getD 15 0 = x := ⟨_, rfl⟩
  rw [hx] at c0 hx9 hq15
  have HX := Lib.hid hx
  clear hx hA hB hb hV
  have hodd := odd_bits_at x hx9
  have hmul : (IntKind.u8.wrap (((x % 2 : Nat) : Int) * 135)) = ((x % 2 * 135 : Nat) : Int) := by rw [IntKind.wrap_u8]; omega
  have hxo : bits .xor .u8 (x : Int) ((x : Int) % 2 * 135) = ((x ^^^ (x % 2 * 135) : Nat) : Int) := by
    have := u8_xor_nat x (x % 2 * 135) hx9 (by omega)
    push_cast at this
    exact this
  have HQ := Lib.hid hq15
  clear hq15
  go_upto_region 4 with (fail)
  rw [zeros_vc]
  have hA : Blk ((w1.setCell ⟨w.heap.size, 15, none⟩ (.int .u8 ((x ^^^ (x % 2 * 135) : Nat) : Int))).alloc (.cells (vc zeros) 24)) w.heap.size 24 (vc (hq l)) := by
    rw [← HQ.out]; exact (Blk.set_ HA.out 15 _).alloc _
  have hB : Blk ((w1.setCell ⟨w.heap.size, 15, none⟩ (.int .u8 ((x ^^^ (x % 2 * 135) : Nat) : Int))).alloc (.cells (vc zeros) 24)) (w.heap.size + 1) 24 (vc zeros) := (Blk.far HB.out (by simp) _).alloc _
  have hC : Blk ((w1.setCell ⟨w.heap.size, 15, none⟩ (.int .u8 ((x ^^^ (x % 2 * 135) : Nat) : Int))).alloc (.cells (vc zeros) 24)) (w.heap.size + 1 + 1) 24 (vc zeros) := by
    have := Blk.new (w1.setCell ⟨w.heap.size, 15, none⟩ (.int .u8 ((x ^^^ (x % 2 * 135) : Nat) : Int))) 24 (vc zeros)
    rw [World.size_setCell, hs] at this
    exact this
  have hb : Below w.heap.size w ((w1.setCell ⟨w.heap.size, 15, none⟩ (.int .u8 ((x ^^^ (x % 2 * 135) : Nat) : Int))).alloc (.cells (vc zeros) 24)) := (HBE.out.setCell (by simp) _).alloc (by rw [World.size_setCell, hs]; omega) _
  generalize (w1.setCell ⟨w.heap.size, 15, none⟩ (.int .u8 ((x ^^^ (x % 2 * 135) : Nat) : Int))).alloc (.cells (vc zeros) 24) = w2 at *
  have HA := Lib.hid hA
  have HB := Lib.hid hB
  have HC := Lib.hid hC
  have HBE := Lib.hid hb
  clear hA hB hC hb hs c0 f0 hodd hmul hxo
  obtain ⟨q, hq⟩ : ∃ q, hq l = q := ⟨_, rfl⟩
  rw [hq] at HA HQ Q1 Q2
  have Hq := Lib.hid hq
  clear hq
  go_wp2_with fail
  go_loopw [15] (fun i wr => ∃ (j : Nat), j ≤ 16 ∧ i = .int .i64 j ∧ Blk wr w.heap.size 24 (vc q) ∧ Blk wr (w.heap.size + 1) 24 (vc zeros) ∧ Blk wr (w.heap.size + 1 + 1) 24 (vc (fill (hb q) j)) ∧ Below w.heap.size w wr) (fun i _ => 16 - (intOf i).toNat)
  case atStart => exact ⟨0, by omega, rfl, HA.out, HB.out, by rw [fill_0]; exact HC.out, HBE.out⟩
  case round =>
    clear HA HB HC HBE
    obtain ⟨j, hj, rfl, hA, hB, hC, hbel⟩ := hrel
    have HA := Lib.hid hA
    have HB := Lib.hid hB
    have HC := Lib.hid hC
    have HBE := Lib.hid hbel
    by_cases hlt : j < 16
    · have c0 := (Blk.cell hA j).trans (vc_get _ j (by rw [Q1.out]; omega))
      have c2 := (Blk.cell hC j).trans (vc_get _ j (by rw [fill_len]; omega))
      have f2 := Blk.frozen hC j
      have hst : (fill (hb q) j).set j (hb q j) = fill (hb q) (j + 1) := fill_next (hb q) j hlt
      have hx9 := getD_lt Q2.out j
      have hy9 := getD_lt Q2.out (j - 1)
      by_cases h0 : 0 < j
      · have c1 := (Blk.cell hA (j - 1)).trans (vc_get _ (j - 1) (by rw [Q1.out]; omega))
        have hst2 : (fill (hb q) j).set j (q.getD j 0 / 2 ||| q.getD (j - 1) 0 * 128 % 256) = fill (hb q) (j + 1) := by
          rw [← hst]; unfold hb; rw [if_neg (by omega)]
        obtain ⟨a, haa⟩ : ∃ a, q.getD j 0 = a := ⟨_, rfl⟩
        obtain ⟨y, hy⟩ : ∃ y, q.getD (j - 1) 0 = y := ⟨_, rfl⟩
        rw [haa] at c0 hst2 hx9
        rw [hy] at c1 hst2 hy9
        have HST := Lib.hid hst2
        clear haa hy hA hB hC hbel hst hst2
        have hor : bits .or .u8 ((a : Int) / 2) ((y : Int) * 128 % 256) = ((a / 2 ||| y * 128 % 256 : Nat) : Int) := by
          have := u8_or_nat (a / 2) (y * 128 % 256) (by omega) (by omega)
          push_cast at this
          exact this
        have hwj : IntKind.i64.wrap ((j : Int) - 1) = (j : Int) - 1 := IntWalk.i64_in _ (by omega)
        have htj : ((j : Int) - 1).toNat = j - 1 := by omega
        have hj0 : (0 : Int) ≤ (j : Int) - 1 := by omega
        have hj1 : (j : Int) - 1 < 16 := by omega
        have hj2 : (0 : Int) < (j : Int) := by omega
        have hj3 : (1 : Int) ≤ (j : Int) := by omega
        go_wp2_with fail
        refine region_tail 10 (by kernel_rfl) (by kernel_rfl) ?_
        simp only [List.take_succ_cons, List.take_zero, List.drop_succ_cons, List.drop_zero]
        iterate 10 still_step
        refine wpStill_nil ?_
        go_wp2_with fail
        go_roundw
        case rel => exact ⟨j + 1, by omega, by go_num, Blk.drew (Blk.far (Blk.far HA.out (by simp; omega) _) (by simp; omega) _), Blk.drew (Blk.far (Blk.far HB.out (by simp) _) (by simp) _), by rw [← HST.out, ← vc_set2]; exact Blk.drew (Blk.set_ (Blk.set_ HC.out j _) j _), ((HBE.out.setCell (by simp; omega) _).setCell (by simp; omega) _).drew⟩
        case measure => simp [intOf]; omega
      · obtain rfl : j = 0 := by omega
        have hst2 : (fill (hb q) 0).set 0 (q.getD 0 0 / 2) = fill (hb q) 1 := by
          rw [← hst]; unfold hb; simp
        obtain ⟨a, haa⟩ : ∃ a, q.getD 0 0 = a := ⟨_, rfl⟩
        rw [haa] at c0 hst2 hx9
        have HST := Lib.hid hst2
        clear haa hA hB hC hbel hst hst2
        go_wp2_with fail
        go_roundw
        case rel => exact ⟨1, by omega, by go_num, Blk.far HA.out (by simp; omega) _, Blk.far HB.out (by simp) _, by rw [← HST.out, ← vc_set]; exact Blk.set_ HC.out 0 _, HBE.out.setCell (by simp; omega) _⟩
        case measure => simp [intOf]
    · obtain rfl : j = 16 := by omega
      have c2 := (Blk.cell hC 0).trans (vc_get _ 0 (by rw [fill_len]; omega))
      have f2 := Blk.frozen hC 0
      rw [fill_get _ _ _ (by omega), if_pos (by omega)] at c2
      have hd9 := hb_lt Q2.out 0
      have hset : (fill (hb q) 16).set 0 (hb q 0 ||| x % 2 * 128) = v := by rw [fill_all, ← HV.out]; unfold hlv; rw [Hq.out, HX.out]
      obtain ⟨d, hd⟩ : ∃ d, hb q 0 = d := ⟨_, rfl⟩
      rw [hd] at c2 hset hd9
      have hor : bits .or .u8 (d : Int) ((x : Int) % 2 * 128) = ((d ||| x % 2 * 128 : Nat) : Int) := by
        have := u8_or_nat d (x % 2 * 128) hd9 (by omega)
        push_cast at this
        exact this
      have hC1 : Blk (wr.setCell ⟨w.heap.size + 1 + 1, 0, none⟩ (.int .u8 ((d ||| x % 2 * 128 : Nat) : Int))) (w.heap.size + 1 + 1) 24 (vc v) := by
        rw [← hset, ← vc_set]; exact Blk.set_ HC.out 0 _
      have hB1 : Blk (wr.setCell ⟨w.heap.size + 1 + 1, 0, none⟩ (.int .u8 ((d ||| x % 2 * 128 : Nat) : Int))) (w.heap.size + 1) 24 (vc zeros) := Blk.far HB.out (by simp) _
      have hl16 : v.length = 16 := by rw [← HV.out]; simp [hlv]
      have HL := Lib.hid hl16
      clear hA hB hC hbel hd hset hl16
      have HC1 := Lib.hid hC1
      have HB1 := Lib.hid hB1
      clear hC1 hB1
      go_upto_region 12 with (fail)
      go_wp2_with (first | (refine wpList_load_mid rfl 24 (.tmp 4) rfl (w.heap.size + 1 + 1) 0 rfl (vc v).toList (.array 16 5) (Blk.rangeAt HC1.out) Try.underlying24 rfl (info16 HL.out) ?_) | (refine wpList_store_mid rfl 24 (.tmp 2) (.tmp 43) rfl (w.heap.size + 1) 0 (vc v) rfl rfl (Blk.there HB1.out (by rw [vc_size, HL.out]; rfl)) (info16' HL.out) (vc_one _) ?_))
      have hB2 := Blk.setAll HB1.out (cs' := vc v) (by rw [vc_size, vc_size, HL.out]; rfl)
      refine bodyPost_ret (results_cell_row rfl _ _ (w.heap.size + 1) 24 _ (0, 0) (.array 16 5) rfl hB2 Try.underlying24 rfl (info16' HL.out)) rfl ⟨by rw [HV.out], below_setCells _ _ _ (HBE.out.setCell (by simp; omega) _) (by omega)⟩
end Go.Proofs.Ytdggedgailkceaa
