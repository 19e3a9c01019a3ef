import Derived.Test.YtojfghfgaljkkaaDoorBits
import Derived.Deep.Cut
namespace Go.Proofs.YtojfghfgaljkkaaDoor
open Go.ChangeShapes Go.WideShapes Go.ChangeAt Go.RowKit
set_option linter.unusedVariables false
set_option linter.unusedSimpArgs false
/-- The first r bits of byte j. -/
def pv (L : List Nat) (j : Nat) : Nat → Nat
  | 0 => 0
  | r + 1 => pv L j r * 2 + L.getD (8 * j + r) 0
theorem pv_lt (L : List Nat) (h : ∀ x ∈ L, x ≤ 1) (j r : Nat) : pv L j r < 2 ^ r := by
  induction r with
  | zero => simp [pv]
  | succ r ih =>
    have : L.getD (8 * j + r) 0 ≤ 1 := by
      rw [List.getD]
      cases e : L[8 * j + r]? with
      | none => simp
      | some x => exact h x (List.mem_of_getElem? e)
    simp only [pv, Nat.pow_succ]; omega
def ofTo (L : List Nat) (i : Nat) : List Nat := (List.range 16).map fun j => pv L j (min 8 (i - 8 * j))
def ofL (L : List Nat) : List Nat := (List.range 16).map fun j => pv L j 8
theorem ofTo_len (L : List Nat) (i : Nat) : (ofTo L i).length = 16 := by simp [ofTo]
theorem ofTo_0 (L : List Nat) : ofTo L 0 = zeros := by simp [ofTo, zeros, pv]; decide
theorem ofTo_all (L : List Nat) : ofTo L 128 = ofL L := by
  unfold ofTo ofL
  apply List.map_congr_left
  intro j hj
  simp only [List.mem_range] at hj
  rw [show min 8 (128 - 8 * j) = 8 by omega]
theorem ofTo_get (L : List Nat) (i : Nat) (hi : i < 128) : (ofTo L i).getD (i / 8) 0 = pv L (i / 8) (i % 8) := by
  have h : i / 8 < 16 := by omega
  simp only [ofTo, List.getD, List.getElem?_map, List.getElem?_range h, Option.map_some, Option.getD_some]
  rw [show min 8 (i - 8 * (i / 8)) = i % 8 by omega]
theorem ofTo_next (L : List Nat) (i : Nat) (hi : i < 128) : (ofTo L i).set (i / 8) (pv L (i / 8) (i % 8) * 2 + L.getD i 0) = ofTo L (i + 1) := by
  apply List.ext_getElem?
  intro k
  rw [List.getElem?_set]
  have hlen := ofTo_len L i
  by_cases hk : i / 8 = k
  · subst hk
    rw [if_pos rfl, if_pos (by omega)]
    simp only [ofTo, List.getElem?_map, List.getElem?_range (show i / 8 < 16 by omega), Option.map_some]
    rw [show min 8 (i + 1 - 8 * (i / 8)) = i % 8 + 1 by omega, pv, show 8 * (i / 8) + i % 8 = i by omega]
  · rw [if_neg hk]
    simp only [ofTo, List.getElem?_map]
    by_cases h9 : k < 16
    · rw [List.getElem?_range h9]
      simp only [Option.map_some, Option.some.injEq]
      congr 1
      omega
    · rw [List.getElem?_eq_none (by simp; omega)]; rfl
theorem pow8 (r : Nat) (h : r < 8) : 2 ^ r ≤ 128 := by
  have := Nat.pow_le_pow_right (n := 2) (by omega) (show r ≤ 7 by omega)
  omega
set_option maxRecDepth 100000 in
theorem of_any (A : Option Addr) (n c B : Nat) (L : List Nat) (w : World) (hr : Reads w B 1 A n (iv L)) (hB : B ≤ w.heap.size) (hn : 128 ≤ n) (hL : ∀ x ∈ L, x ≤ 1) :
    Calls Tryd.prog 18 #[.slice A n c] w fun e w' => e = .returned (.agg (vc (ofL L))) ∧ Below w.heap.size w w' := by
  have HR := Lib.hid hr
  have HL1 := Lib.hid hL
  have HLen := Lib.hid (show L.length = n by have := hr.1; simpa [iv] using this)
  clear hr hL
  go_enter Tryd.func18, Tryd.ntmps18
  go_wp2_with fail
  rw [zeros_vc]
  have hB2 : Blk ((w.alloc (.cells (vc zeros) 22)).alloc (.cells (vc zeros) 22)) w.heap.size 22 (vc zeros) := (Blk.new w 22 (vc zeros)).alloc _
  have hC : Blk ((w.alloc (.cells (vc zeros) 22)).alloc (.cells (vc zeros) 22)) (w.heap.size + 1) 22 (vc zeros) := by have := Blk.new (w.alloc (.cells (vc zeros) 22)) 22 (vc zeros); simpa using this
  have hb : Below w.heap.size w ((w.alloc (.cells (vc zeros) 22)).alloc (.cells (vc zeros) 22)) := by go_grown
  have HB := Lib.hid hB2
  have HC := Lib.hid hC
  have HBE := Lib.hid hb
  clear hB2 hC hb
  go_loopw [4] (fun i wr => ∃ (j : Nat), j ≤ 128 ∧ i = .int .i64 j ∧ Blk wr w.heap.size 22 (vc zeros) ∧ Blk wr (w.heap.size + 1) 22 (vc (ofTo L j)) ∧ Below w.heap.size w wr) (fun i _ => 128 - (intOf i).toNat)
  case atStart => exact ⟨0, by omega, rfl, HB.out, by rw [ofTo_0]; exact HC.out, HBE.out⟩
  case round =>
    clear HB HC HBE
    obtain ⟨j, hj, rfl, hB2, hC, hbel⟩ := hrel
    have HB := Lib.hid hB2
    have HC := Lib.hid hC
    have HBE := Lib.hid hbel
    by_cases hlt : j < 128
    · obtain ⟨bk, o, u, rfl, hbk, hu, hcu⟩ := HR.out.cell (k := j) (by omega)
      have hb' : bk < w.heap.size := Nat.lt_of_lt_of_le hbk hB
      have c1 := (hbel.cell (p := ⟨bk, o + j, none⟩) hb').trans hcu
      obtain ⟨y, hy, rfl⟩ : ∃ y, L.getD j 0 = y ∧ u = .int .i64 (y : Nat) := by
        simp only [iv, List.getElem?_map, Option.map_eq_some_iff] at hu
        obtain ⟨y, hy, rfl⟩ := hu
        exact ⟨y, by rw [List.getD, hy]; rfl, rfl⟩
      have hy1 : y ≤ 1 := by
        rw [← hy, List.getD]
        cases e : L[j]? with
        | none => simp
        | some x => exact HL1.out x (List.mem_of_getElem? e)
      have c2 := (Blk.cell hC (j / 8)).trans (vc_get _ (j / 8) (by rw [ofTo_len]; omega))
      have f2 := Blk.frozen hC (j / 8)
      rw [ofTo_get _ _ hlt] at c2
      have hst := ofTo_next L j hlt
      rw [hy] at hst
      have hp := Nat.lt_of_lt_of_le (pv_lt L HL1.out (j / 8) (j % 8)) (pow8 _ (by omega))
      obtain ⟨p, hpp⟩ : ∃ p, pv L (j / 8) (j % 8) = p := ⟨_, rfl⟩
      rw [hpp] at c2 hst hp
      have HST := Lib.hid hst
      clear hpp hst hy hu hcu hB2 hC hbel
      go_wp2_with fail
      have g0 : j < n := by omega
      have g1 : (0 : Int) ≤ (j : Int) / 8 := by omega
      have g2 : (j : Int) / 8 < 16 := by omega
      have hwj : IntKind.i64.wrap ((j : Int) / 8) = (j : Int) / 8 := IntWalk.i64_in _ (by omega)
      have htj : ((j : Int) / 8).toNat = j / 8 := by omega
      have hw2 : IntKind.u8.wrap ((p : Int) * 2) = (p : Int) * 2 := IntWalk.u8_in _ (by omega)
      have hwy : IntKind.u8.wrap (y : Int) = (y : Int) := IntWalk.u8_in _ (by omega)
      have hwa : IntKind.u8.wrap ((p : Int) * 2 + (y : Int)) = (p : Int) * 2 + (y : Int) := IntWalk.u8_in _ (by omega)
      refine region_tail 14 (by kernel_rfl) (by kernel_rfl) ?_
      simp only [List.take_succ_cons, List.take_zero, List.drop_succ_cons, List.drop_zero]
      iterate 14 still_step
      refine wpStill_nil ?_
      clear hwj htj hw2 hwy hwa
      go_wp2_with fail
      go_roundw
      case rel => exact ⟨j + 1, by omega, by go_num, Blk.drew (Blk.far HB.out (by simp) _), by rw [← HST.out, ← vc_set]; push_cast; exact Blk.drew (Blk.set_ HC.out (j / 8) _), (HBE.out.setCell (by simp) _).drew⟩
      case measure => simp [intOf]; omega
    · obtain rfl : j = 128 := by omega
      have hl16 : (ofL L).length = 16 := by simp [ofL]
      have hfa := ofTo_all L
      rw [hfa] at hC
      obtain ⟨v, hv⟩ : ∃ v, ofL L = v := ⟨_, rfl⟩
      rw [hv] at hC hl16
      have HL := Lib.hid hl16
      have HV := Lib.hid hv
      have HC1 := Lib.hid hC
      have HB1 := Lib.hid hB2
      clear hB2 hC hbel hl16 hv hfa HC HB
      go_upto_region 6 with (fail)
      go_wp2_with (first | (refine wpList_load_mid rfl 22 (.tmp 3) rfl (w.heap.size + 1) 0 rfl (vc v).toList (.array 16 5) (Blk.rangeAt HC1.out) Tryd.underlying22 rfl (info16 HL.out) ?_) | (refine wpList_store_mid rfl 22 (.tmp 2) (.tmp 23) rfl w.heap.size 0 (vc v) rfl rfl (Blk.there HB1.out (by rw [vc_size, HL.out]; rfl)) (info16' HL.out) (vc_one _) ?_))
      have hB2 := Blk.setAll HB1.out (cs' := vc v) (by rw [vc_size, vc_size, HL.out]; rfl)
      refine bodyPost_ret (results_cell_row rfl _ _ w.heap.size 22 _ (0, 0) (.array 16 5) rfl hB2 Tryd.underlying22 rfl (info16' HL.out)) rfl ⟨by rw [HV.out], below_setCells _ _ _ HBE.out (by omega)⟩
end Go.Proofs.YtojfghfgaljkkaaDoor
