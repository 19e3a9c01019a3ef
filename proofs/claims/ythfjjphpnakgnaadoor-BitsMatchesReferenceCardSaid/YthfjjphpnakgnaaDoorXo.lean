import Derived.Test.YthfjjphpnakgnaaDoorByt
import Derived.Deep.Cut
namespace Go.Proofs.YthfjjphpnakgnaaDoor
open Go.ChangeShapes Go.WideShapes Go.ChangeAt Go.RowKit
set_option linter.unusedVariables false
set_option linter.unusedSimpArgs false
def xl (la lb : List Nat) : List Nat := List.zipWith (· ^^^ ·) la lb
theorem xl_len (la lb : List Nat) : (xl la lb).length = min la.length lb.length := by simp [xl]
theorem xl_get {la lb : List Nat} {j x y : Nat} (hx : la[j]? = some x) (hy : lb[j]? = some y) : (xl la lb)[j]? = some (x ^^^ y) := by simp [xl, List.getElem?_zipWith, hx, hy]
theorem xor_lt {x y : Nat} (hx : x < 256) (hy : y < 256) : x ^^^ y < 256 := Nat.xor_lt_two_pow (n := 8) hx hy
theorem xl_lt (la lb : List Nat) (ha : ∀ x ∈ la, x < 256) (hb : ∀ x ∈ lb, x < 256) : ∀ x ∈ xl la lb, x < 256 := by
  intro z hz
  obtain ⟨i, hi⟩ := List.mem_iff_getElem?.1 hz
  simp only [xl, List.getElem?_zipWith] at hi
  cases e1 : la[i]? with
  | none => simp [e1] at hi
  | some x =>
    cases e2 : lb[i]? with
    | none => simp [e1, e2] at hi
    | some y =>
      simp [e1, e2] at hi
      subst hi
      exact xor_lt (ha x (List.mem_of_getElem? e1)) (hb y (List.mem_of_getElem? e2))
set_option maxRecDepth 100000 in
theorem xor_any (A B : Option Addr) (n c m d : Nat) (la lb : List Nat) (w : World) (hA : Bys w A n la) (hB : Bys w B m lb) (hn : n ≤ 1000) (hm : m ≤ 1000) :
    Calls Tryd.prog 16 #[.slice A n c, .slice B m d] w fun e w' => e = .returned (.slice (some ⟨w.heap.size, 0, none⟩) (min n m) (min n m)) ∧ Filled w' w.heap.size (min n m) (min n m) (xl la lb) ∧ Below w.heap.size w w' := by
  have HA := Lib.hid hA
  have HB := Lib.hid hB
  have HL := Lib.hid (show (xl la lb).length = min n m by rw [xl_len, hA.len, hB.len])
  clear hA hB
  obtain ⟨i0, hi, hz0, hz1, hz2⟩ := info_parts info5
  rcases (show (n ≤ m ∧ min n m = n) ∨ (m < n ∧ min n m = m) by omega) with ⟨h1, h2⟩ | ⟨h1, h2⟩
  · rw [h2] at HL ⊢
    clear h2
    go_enter Tryd.func16, Tryd.ntmps16
    go_wp2_with (refine wpList_make_full _ rfl (.tmp 11) (.tmp 11) 22 rfl w.heap.size 5 i0 (.int .u8 0) 1 Tryd.underlying22 hi hz0 hz1 .i64 .i64 _ _ n rfl rfl rfl rfl (by rw [hz2]; omega) (by unfold maxLen; omega) (Nat.le_refl _) ?_)
    intro w1 ho hg
    have HF := Lib.hid (Filled.start (l := xl la lb) ho)
    have HBE := Lib.hid (below_of_none hg)
    clear ho hg
    go_wp2_with fail
    go_loopw [15] (fun i wr => ∃ (j : Nat), j ≤ n ∧ i = .int .i64 j ∧ Filled wr w.heap.size n j (xl la lb) ∧ Below w.heap.size w wr) (fun i _ => n - (intOf i).toNat)
    case atStart => exact ⟨0, by omega, rfl, HF.out, HBE.out⟩
    case round =>
      clear HF HBE
      obtain ⟨j, hj, rfl, hF, hbel⟩ := hrel
      have HF := Lib.hid hF
      have HBE := Lib.hid hbel
      clear hF
      by_cases hlt : j < n
      · obtain ⟨v0, c0, f0, hg0⟩ := HF.out.cell hlt
        obtain ⟨b1, o1, x, rfl, hb1, hx1, hx9, hcx⟩ := HA.out.cell (k := j) (by omega)
        obtain ⟨b2, o2, y, rfl, hb2, hy1, hy9, hcy⟩ := HB.out.cell (k := j) (by omega)
        have c1 := (hbel.cell (p := ⟨b1, o1 + j, none⟩) hb1).trans hcx
        have c2 := (hbel.cell (p := ⟨b2, o2 + j, none⟩) hb2).trans hcy
        have HN := Lib.hid (HF.out.next hlt _ (xl_get hx1 hy1))
        have hbx := u8_xor_nat x y hx9 hy9
        have hjn : j < n := by omega
        have hjm : j < m := by omega
        clear hbel hcx hcy hx1 hy1 HA HB HF
        go_wp2_with fail
        refine region_tail 12 (by kernel_rfl) (by kernel_rfl) ?_
        simp only [List.take_succ_cons, List.take_zero, List.drop_succ_cons, List.drop_zero]
        iterate 12 still_step
        refine wpStill_nil ?_
        go_wp2_with fail
        go_roundw
        case rel => exact ⟨j + 1, by omega, by go_num, HN.out, (HBE.out.setCell (by simp) _).drew⟩
        case measure => simp [intOf]; omega
      · obtain rfl : j = n := by omega
        go_wp2_with fail
        go_ret
        exact ⟨rfl, HF.out, HBE.out⟩
  · rw [h2] at HL ⊢
    clear h2
    go_enter Tryd.func16, Tryd.ntmps16
    go_wp2_with (refine wpList_make_full _ rfl (.tmp 11) (.tmp 11) 22 rfl w.heap.size 5 i0 (.int .u8 0) 1 Tryd.underlying22 hi hz0 hz1 .i64 .i64 _ _ m rfl rfl rfl rfl (by rw [hz2]; omega) (by unfold maxLen; omega) (Nat.le_refl _) ?_)
    intro w1 ho hg
    have HF := Lib.hid (Filled.start (l := xl la lb) ho)
    have HBE := Lib.hid (below_of_none hg)
    clear ho hg
    go_wp2_with fail
    go_loopw [15] (fun i wr => ∃ (j : Nat), j ≤ m ∧ i = .int .i64 j ∧ Filled wr w.heap.size m j (xl la lb) ∧ Below w.heap.size w wr) (fun i _ => m - (intOf i).toNat)
    case atStart => exact ⟨0, by omega, rfl, HF.out, HBE.out⟩
    case round =>
      clear HF HBE
      obtain ⟨j, hj, rfl, hF, hbel⟩ := hrel
      have HF := Lib.hid hF
      have HBE := Lib.hid hbel
      clear hF
      by_cases hlt : j < m
      · obtain ⟨v0, c0, f0, hg0⟩ := HF.out.cell hlt
        obtain ⟨b1, o1, x, rfl, hb1, hx1, hx9, hcx⟩ := HA.out.cell (k := j) (by omega)
        obtain ⟨b2, o2, y, rfl, hb2, hy1, hy9, hcy⟩ := HB.out.cell (k := j) (by omega)
        have c1 := (hbel.cell (p := ⟨b1, o1 + j, none⟩) hb1).trans hcx
        have c2 := (hbel.cell (p := ⟨b2, o2 + j, none⟩) hb2).trans hcy
        have HN := Lib.hid (HF.out.next hlt _ (xl_get hx1 hy1))
        have hbx := u8_xor_nat x y hx9 hy9
        have hjn : j < n := by omega
        have hjm : j < m := by omega
        clear hbel hcx hcy hx1 hy1 HA HB HF
        go_wp2_with fail
        refine region_tail 12 (by kernel_rfl) (by kernel_rfl) ?_
        simp only [List.take_succ_cons, List.take_zero, List.drop_succ_cons, List.drop_zero]
        iterate 12 still_step
        refine wpStill_nil ?_
        go_wp2_with fail
        go_roundw
        case rel => exact ⟨j + 1, by omega, by go_num, HN.out, (HBE.out.setCell (by simp) _).drew⟩
        case measure => simp [intOf]; omega
      · obtain rfl : j = m := by omega
        go_wp2_with fail
        go_ret
        exact ⟨rfl, HF.out, HBE.out⟩
end Go.Proofs.YthfjjphpnakgnaaDoor
