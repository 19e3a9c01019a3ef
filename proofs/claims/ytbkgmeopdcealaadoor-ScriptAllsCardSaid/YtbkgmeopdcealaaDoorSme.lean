import Derived.Test.YtbkgmeopdcealaaDoorRows
import Derived.Test.YtbkgmeopdcealaaDoorBase
namespace Go.Proofs.YtbkgmeopdcealaaDoor
open Go.ChangeShapes Go.WideShapes Go.ChangeAt Go.RowKit
set_option linter.unusedVariables false
set_option linter.unusedSimpArgs false
theorem take_eq_next {xs ys : List Nat} {j x y : Nat} (hx : xs[j]? = some x) (hy : ys[j]? = some y) (h : xs.take j = ys.take j) (he : x = y) : xs.take (j + 1) = ys.take (j + 1) := by
  rw [List.take_add_one, List.take_add_one, hx, hy, h, he]
set_option maxRecDepth 100000 in
theorem same_any (A B : Option Addr) (n c m d : Nat) (xs ys : List Nat) (w : World) (hx : Bys w A n xs) (hy : Bys w B m ys) (hn : n ≤ maxLen) (hm : m ≤ maxLen) :
    Calls Tryd.prog 25 #[.slice A n c, .slice B m d] w fun e w' => e = .returned (.bool (decide (xs = ys))) ∧ ∃ k, w' = w.drewN k := by
  unfold maxLen at hn hm
  have lx := hx.len
  have ly := hy.len
  have HX := Lib.hid hx
  have HY := Lib.hid hy
  clear hx hy
  by_cases hnm : n = m
  · subst hnm
    have LX := Lib.hid lx
    have LY := Lib.hid ly
    clear lx ly
    go_enter Tryd.func25, Tryd.ntmps25
    go_wp2_with fail
    go_loopw [5] (fun i wr => ∃ (j k : Nat), j ≤ n ∧ i = .int .i64 j ∧ xs.take j = ys.take j ∧ wr = w.drewN k) (fun i _ => n - (intOf i).toNat)
    case atStart => exact ⟨0, 0, by omega, rfl, by simp, rfl⟩
    case round =>
      obtain ⟨j, k, hj, rfl, ht, rfl⟩ := hrel
      have HT := Lib.hid ht
      clear ht
      by_cases hlt : j < n
      · obtain ⟨b1, o1, x, rfl, _, hx1, hx9, hcx⟩ := HX.out.cell hlt
        obtain ⟨b2, o2, y, rfl, _, hy1, hy9, hcy⟩ := HY.out.cell hlt
        have cx : (w.drewN k).cell? ⟨b1, o1 + j, none⟩ = some (.int .u8 (x : Nat)) := hcx
        have cy : (w.drewN k).cell? ⟨b2, o2 + j, none⟩ = some (.int .u8 (y : Nat)) := hcy
        have HX1 := Lib.hid hx1
        have HY1 := Lib.hid hy1
        have hji : (j : Int) < (n : Int) := by omega
        clear hx1 hy1
        by_cases he : x = y
        · have HN := Lib.hid (take_eq_next HX1.out HY1.out HT.out he)
          subst he
          clear HT HX1 HY1
          go_wp2_with fail
          go_quiet (fail)
          go_wp2_with fail
          go_roundw
          case rel => exact ⟨j + 1, _, by omega, by go_num, HN.out, rfl⟩
          case measure => simp [intOf]; omega
        · have hne : xs ≠ ys := by
            rintro rfl
            have e1 := HX1.out
            rw [HY1.out] at e1
            injection e1 with e1
            exact he e1.symm
          have hb : ((x : Int) == (y : Int)) = false := by simp; omega
          have hb2 : ((x : Int) != (y : Int)) = true := by simp; omega
          have HNE := Lib.hid hne
          clear hne HT HX1 HY1
          go_wp2_with fail
          go_quiet (fail)
          go_wp2_with fail
          go_ret
          exact ⟨ret_bool (by simp [HNE.out]), _, World.drewN_drewN _ _ _⟩
      · obtain rfl : j = n := by omega
        have he : xs = ys := by
          have := HT.out
          rwa [List.take_of_length_le (by rw [LX.out]; omega), List.take_of_length_le (by rw [LY.out]; omega)] at this
        subst he
        go_wp2_with fail
        go_ret
        exact ⟨ret_bool (by simp), _, rfl⟩
  · have hne : xs ≠ ys := by rintro rfl; omega
    clear lx ly
    have hb : ((n : Int) == (m : Int)) = false := by simp; omega
    have hb2 : ((n : Int) != (m : Int)) = true := by simp; omega
    have HNE := Lib.hid hne
    clear hne
    go_enter Tryd.func25, Tryd.ntmps25
    go_wp2_with fail
    go_ret
    exact ⟨ret_bool (by simp [HNE.out]), 0, rfl⟩
end Go.Proofs.YtbkgmeopdcealaaDoor
