import Derived.Test.YtdggedgailkceaaArr
import Derived.Laws.BitsAllLaws
namespace Go.Proofs.Ytdggedgailkceaa
open Go.ChangeShapes Go.WideShapes Go.ChangeAt Go.RowKit
set_option linter.unusedVariables false
set_option linter.unusedSimpArgs false
/-- The first n cells are summed. -/
def xorTo (la lb : List Nat) (n : Nat) : List Nat := List.zipWith (· ^^^ ·) (la.take n) (lb.take n) ++ la.drop n
theorem xorTo_len (la lb : List Nat) (n : Nat) (h : la.length = lb.length) (hn : n ≤ la.length) : (xorTo la lb n).length = la.length := by simp [xorTo]; omega
theorem xorTo_get (la lb : List Nat) (n : Nat) (h : la.length = lb.length) (hn : n < la.length) : (xorTo la lb n).getD n 0 = la.getD n 0 := by
  have e : (List.zipWith (· ^^^ ·) (la.take n) (lb.take n)).length = n := by simp; omega
  simp [xorTo, List.getD, List.getElem?_append_right, e, List.getElem?_drop]
theorem xorTo_next (la lb : List Nat) (n : Nat) (h : la.length = lb.length) (hn : n < la.length) : (xorTo la lb n).set n (la.getD n 0 ^^^ lb.getD n 0) = xorTo la lb (n + 1) := by
  apply List.ext_getElem?
  intro i
  have e : (List.zipWith (· ^^^ ·) (la.take n) (lb.take n)).length = n := by simp; omega
  have e1 : (List.zipWith (· ^^^ ·) (la.take (n + 1)) (lb.take (n + 1))).length = n + 1 := by simp; omega
  have hl := xorTo_len la lb n h (by omega)
  rw [List.getElem?_set]
  by_cases hi : n = i
  · subst hi
    rw [if_pos rfl, if_pos (by rw [hl]; exact hn)]
    unfold xorTo
    rw [List.getElem?_append_left (by rw [e1]; omega)]
    simp [List.getElem?_zipWith, List.getD, hn, show n < lb.length by omega]
  · rw [if_neg hi]
    unfold xorTo
    by_cases hlt : i < n
    · rw [List.getElem?_append_left (by rw [e]; omega), List.getElem?_append_left (by rw [e1]; omega)]
      simp [List.getElem?_zipWith, List.getElem?_take, hlt, show i < n + 1 by omega]
    · rw [List.getElem?_append_right (by rw [e]; omega), List.getElem?_append_right (by rw [e1]; omega), e, e1]
      simp only [List.getElem?_drop]
      congr 1
      omega
theorem getD_lt {l : List Nat} (h : ∀ x ∈ l, x < 256) (i : Nat) : l.getD i 0 < 256 := by
  rw [List.getD]
  cases e : l[i]? with
  | none => simp
  | some x => exact h x (List.mem_of_getElem? e)
theorem info16 {l : List Nat} (h : l.length = 16) : (Try.prog.info? 24).map (·.size) = some (vc l).toList.length := by rw [show (vc l).toList.length = 16 by simp [vc, h]]; kernel_rfl
theorem info16' {l : List Nat} (h : l.length = 16) : (Try.prog.info? 24).map (·.size) = some (vc l).size := by rw [show (vc l).size = 16 by simp [vc, h]]; kernel_rfl
set_option maxRecDepth 100000 in
theorem xor_any (la lb : List Nat) (w : World) (ha : la.length = 16) (hb : lb.length = 16) (ha2 : ∀ x ∈ la, x < 256) (hb2 : ∀ x ∈ lb, x < 256) :
    Calls Try.prog 19 #[.agg (vc la), .agg (vc lb)] w fun e w' => e = .returned (.agg (vc (List.zipWith (· ^^^ ·) la lb))) ∧ Below w.heap.size w w' := by
  go_enter Try.func19, Try.ntmps19
  go_wp2_with fail
  rw [zeros_vc]
  go_loopw [6] (fun i wr => ∃ (j : Nat), j ≤ 16 ∧ i = .int .i64 j ∧ Blk wr w.heap.size 24 (vc (xorTo la lb j)) ∧ Blk wr (w.heap.size + 1) 24 (vc lb) ∧ Blk wr (w.heap.size + 1 + 1) 24 (vc zeros) ∧ Below w.heap.size w wr) (fun i _ => 16 - (intOf i).toNat)
  case atStart => exact ⟨0, by omega, rfl, by
      have e : xorTo la lb 0 = la := by simp [xorTo]
      rw [e]; exact ((Blk.new w 24 (vc la)).alloc _).alloc _, (by have := (Blk.new (w.alloc (.cells (vc la) 24)) 24 (vc lb)).alloc (.cells (vc zeros) 24); simpa using this), (by have := Blk.new ((w.alloc (.cells (vc la) 24)).alloc (.cells (vc lb) 24)) 24 (vc zeros); simpa using this), by go_grown⟩
  case round =>
    obtain ⟨j, hj, rfl, hA, hB, hC, hbel⟩ := hrel
    by_cases hlt : j < 16
    · have c0 := (Blk.cell hA j).trans (vc_get _ j (by rw [xorTo_len _ _ _ (by omega) (by omega)]; omega))
      have c1 := (Blk.cell hB j).trans (vc_get _ j (by omega))
      have f0 := Blk.frozen hA j
      rw [xorTo_get _ _ _ (by omega) (by omega)] at c0
      have hst := xorTo_next la lb j (by omega) (by omega)
      have hx9 := getD_lt ha2 j
      have hy9 := getD_lt hb2 j
      obtain ⟨x, hx⟩ : ∃ x, la.getD j 0 = x := ⟨_, rfl⟩
      obtain ⟨y, hy⟩ : ∃ y, lb.getD j 0 = y := ⟨_, rfl⟩
      rw [hx] at c0 hst hx9
      rw [hy] at c1 hst hy9
      clear hx hy
      have hbx := u8_xor_nat x y hx9 hy9
      have HA := Lib.hid hA
      have HB := Lib.hid hB
      have HC := Lib.hid hC
      have HBE := Lib.hid hbel
      clear hA hB hC hbel
      go_wp2_with fail
      refine region_tail 8 (by kernel_rfl) (by kernel_rfl) ?_
      simp only [List.take_succ_cons, List.take_zero, List.drop_succ_cons, List.drop_zero]
      iterate 8 still_step
      refine wpStill_nil ?_
      go_wp2_with fail
      go_roundw
      case rel => exact ⟨j + 1, by omega, by go_num, by rw [← hst, ← vc_set]; exact Blk.drew (Blk.set_ HA.out j _), Blk.drew (Blk.far HB.out (by simp) _), Blk.drew (Blk.far HC.out (by simp; omega) _), (HBE.out.setCell (by simp) _).drew⟩
      case measure => simp [intOf]; omega
    · obtain rfl : j = 16 := by omega
      have hl16 : (xorTo la lb 16).length = 16 := by rw [xorTo_len _ _ _ (by omega) (by omega)]; exact ha
      go_wp2_with (first | (refine wpList_load_mid rfl 24 (.tmp 2) rfl w.heap.size 0 rfl (vc (xorTo la lb 16)).toList (.array 16 5) (Blk.rangeAt hA) Try.underlying24 rfl (info16 hl16) ?_) | (refine wpList_store_mid rfl 24 (.tmp 4) (.tmp 18) rfl (w.heap.size + 1 + 1) 0 (vc (xorTo la lb 16)) rfl rfl (Blk.there hC (by rw [vc_size, hl16]; rfl)) (info16' hl16) (vc_one _) ?_))
      have hC2 : Blk (wr.setCells (w.heap.size + 1 + 1) 0 (vc (xorTo la lb 16)).toList) (w.heap.size + 1 + 1) 24 (vc (xorTo la lb 16)) := Blk.setAll hC (by rw [vc_size, vc_size, hl16]; rfl)
      refine bodyPost_ret (results_cell_row rfl _ _ (w.heap.size + 1 + 1) 24 _ (0, 0) (.array 16 5) rfl hC2 Try.underlying24 rfl (info16' hl16)) rfl ⟨?_, below_setCells _ _ _ hbel (by omega)⟩
      have e : xorTo la lb 16 = List.zipWith (· ^^^ ·) la lb := by unfold xorTo; rw [List.take_of_length_le (by omega), List.take_of_length_le (by omega), List.drop_of_length_le (by omega), List.append_nil]
      rw [e]
set_option maxRecDepth 100000 in
theorem rxor_any (la lb : List Nat) (w : World) (ha : la.length = 16) (hb : lb.length = 16) (ha2 : ∀ x ∈ la, x < 256) (hb2 : ∀ x ∈ lb, x < 256) :
    Calls Try.prog 22 #[.agg (vc la), .agg (vc lb)] w fun e w' => e = .returned (.agg (vc (List.zipWith (· ^^^ ·) la lb))) ∧ Below w.heap.size w w' := by
  go_enter Try.func22, Try.ntmps22
  go_wp2_with fail
  rw [zeros_vc]
  go_loopw [5] (fun i wr => ∃ (j : Nat), j ≤ 16 ∧ i = .int .i64 j ∧ Blk wr w.heap.size 24 (vc (xorTo la lb j)) ∧ Blk wr (w.heap.size + 1) 24 (vc lb) ∧ Blk wr (w.heap.size + 1 + 1) 24 (vc zeros) ∧ Below w.heap.size w wr) (fun i _ => 16 - (intOf i).toNat)
  case atStart => exact ⟨0, by omega, rfl, by
      have e : xorTo la lb 0 = la := by simp [xorTo]
      rw [e]; exact ((Blk.new w 24 (vc la)).alloc _).alloc _, (by have := (Blk.new (w.alloc (.cells (vc la) 24)) 24 (vc lb)).alloc (.cells (vc zeros) 24); simpa using this), (by have := Blk.new ((w.alloc (.cells (vc la) 24)).alloc (.cells (vc lb) 24)) 24 (vc zeros); simpa using this), by go_grown⟩
  case round =>
    obtain ⟨j, hj, rfl, hA, hB, hC, hbel⟩ := hrel
    by_cases hlt : j < 16
    · have c0 := (Blk.cell hA j).trans (vc_get _ j (by rw [xorTo_len _ _ _ (by omega) (by omega)]; omega))
      have c1 := (Blk.cell hB j).trans (vc_get _ j (by omega))
      have f0 := Blk.frozen hA j
      rw [xorTo_get _ _ _ (by omega) (by omega)] at c0
      have hst := xorTo_next la lb j (by omega) (by omega)
      have hx9 := getD_lt ha2 j
      have hy9 := getD_lt hb2 j
      obtain ⟨x, hx⟩ : ∃ x, la.getD j 0 = x := ⟨_, rfl⟩
      obtain ⟨y, hy⟩ : ∃ y, lb.getD j 0 = y := ⟨_, rfl⟩
      rw [hx] at c0 hst hx9
      rw [hy] at c1 hst hy9
      clear hx hy
      have hbx := u8_xor_nat x y hx9 hy9
      have HA := Lib.hid hA
      have HB := Lib.hid hB
      have HC := Lib.hid hC
      have HBE := Lib.hid hbel
      clear hA hB hC hbel
      go_wp2_with fail
      refine region_tail 9 (by kernel_rfl) (by kernel_rfl) ?_
      simp only [List.take_succ_cons, List.take_zero, List.drop_succ_cons, List.drop_zero]
      iterate 9 still_step
      refine wpStill_nil ?_
      go_wp2_with fail
      go_roundw
      case rel => exact ⟨j + 1, by omega, by go_num, by rw [← hst, ← vc_set]; exact Blk.drew (Blk.set_ HA.out j _), Blk.drew (Blk.far HB.out (by simp) _), Blk.drew (Blk.far HC.out (by simp; omega) _), (HBE.out.setCell (by simp) _).drew⟩
      case measure => simp [intOf]; omega
    · obtain rfl : j = 16 := by omega
      have hl16 : (xorTo la lb 16).length = 16 := by rw [xorTo_len _ _ _ (by omega) (by omega)]; exact ha
      go_wp2_with (first | (refine wpList_load_mid rfl 24 (.tmp 2) rfl w.heap.size 0 rfl (vc (xorTo la lb 16)).toList (.array 16 5) (Blk.rangeAt hA) Try.underlying24 rfl (info16 hl16) ?_) | (refine wpList_store_mid rfl 24 (.tmp 4) (.tmp 19) rfl (w.heap.size + 1 + 1) 0 (vc (xorTo la lb 16)) rfl rfl (Blk.there hC (by rw [vc_size, hl16]; rfl)) (info16' hl16) (vc_one _) ?_))
      have hC2 : Blk (wr.setCells (w.heap.size + 1 + 1) 0 (vc (xorTo la lb 16)).toList) (w.heap.size + 1 + 1) 24 (vc (xorTo la lb 16)) := Blk.setAll hC (by rw [vc_size, vc_size, hl16]; rfl)
      refine bodyPost_ret (results_cell_row rfl _ _ (w.heap.size + 1 + 1) 24 _ (0, 0) (.array 16 5) rfl hC2 Try.underlying24 rfl (info16' hl16)) rfl ⟨?_, below_setCells _ _ _ hbel (by omega)⟩
      have e : xorTo la lb 16 = List.zipWith (· ^^^ ·) la lb := by unfold xorTo; rw [List.take_of_length_le (by omega), List.take_of_length_le (by omega), List.drop_of_length_le (by omega), List.append_nil]
      rw [e]
end Go.Proofs.Ytdggedgailkceaa
