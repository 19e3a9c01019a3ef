import Derived.Test.YtbkgmeopdcealaaDoorUnh
namespace Go.Proofs.YtbkgmeopdcealaaDoor
open Go.ChangeShapes Go.WideShapes Go.ChangeAt Go.RowKit Go.Sort
set_option linter.unusedVariables false
set_option linter.unusedSimpArgs false
/-- Up to seven digits, in plain Lean. -/
def isD (c : Nat) : Bool := decide (48 ≤ c) && decide (c ≤ 57)
def dvN (l : List Nat) : Nat := l.foldl (fun a c => a * 10 + (c - 48)) 0
def numR (s : ByteArray) : Int := if s.size = 0 ∨ 7 < s.size then -1 else if (bys s).all isD then (dvN (bys s) : Nat) else -1
theorem dvN_next {l : List Nat} {j c : Nat} (h : l[j]? = some c) : dvN (l.take (j + 1)) = dvN (l.take j) * 10 + (c - 48) := by
  rw [List.take_add_one, h]
  simp [dvN]
theorem dvN_lt (l : List Nat) (h : ∀ x ∈ l, x < 256) (k : Nat) : dvN (l.take k) ≤ 300 ^ k - 1 + 0 := by
  induction k with
  | zero => simp [dvN]
  | succ k ih =>
    have hp : 0 < 300 ^ k := Nat.pow_pos (by decide)
    cases e : l[k]? with
    | none =>
      have hl : l.length ≤ k := List.getElem?_eq_none_iff.1 e
      rw [List.take_of_length_le (by omega)]
      rw [List.take_of_length_le hl] at ih
      rw [Nat.pow_succ]; omega
    | some x =>
      have hx := h x (List.mem_of_getElem? e)
      rw [dvN_next e, Nat.pow_succ]
      omega
theorem all_bad {l : List Nat} {j c : Nat} (h : l[j]? = some c) (hc : isD c = false) : l.all isD = false := by
  rw [List.all_eq_false]
  exact ⟨c, List.mem_of_getElem? h, by rw [hc]; decide⟩
theorem all_more {l : List Nat} {j c : Nat} (h : l[j]? = some c) (ha : (l.take j).all isD = true) (hc : isD c = true) : (l.take (j + 1)).all isD = true := by
  rw [List.take_add_one, h, List.all_append, ha]
  simp [hc]
set_option maxRecDepth 100000 in
set_option maxHeartbeats 4000000 in
theorem rnumber_any (s : ByteArray) (w : World) (hs : s.size ≤ 1000000) : Calls Tryd.prog 33 #[.string s] w fun e w' => e = .returned (.int .i64 (numR s)) ∧ w = w' := by
  by_cases h0 : s.size = 0
  · have HR := Lib.hid (show numR s = -1 by unfold numR; rw [if_pos (.inl h0)])
    have hz : ((s.size : Int) == 0) = true := by rw [h0]; rfl
    have hzi : (s.size : Int) = 0 := by omega
    generalize numR s = R at *
    clear h0
    go_enter Tryd.func33, Tryd.ntmps33
    go_wp2_with fail
    all_goals go_ret
    exact ⟨by rw [HR.out]; rfl, rfl⟩
  have hz : ((s.size : Int) == 0) = false := beq_false_of_ne (by omega)
  by_cases h7 : 7 < s.size
  · have HR := Lib.hid (show numR s = -1 by unfold numR; rw [if_pos (.inr h7)])
    have hzi : (7 : Int) < (s.size : Int) := by omega
    have hzb : decide (7 < (s.size : Int)) = true := decide_eq_true hzi
    generalize numR s = R at *
    clear h0
    go_enter Tryd.func33, Tryd.ntmps33
    go_wp2_with fail
    all_goals go_ret
    exact ⟨by rw [HR.out]; rfl, rfl⟩
  have hzb : decide (7 < (s.size : Int)) = false := decide_eq_false (by omega)
  have hzi : (s.size : Int) ≤ 7 := by omega
  have HR := Lib.hid (show numR s = if (bys s).all isD then ((dvN (bys s) : Nat) : Int) else -1 by unfold numR; rw [if_neg (by omega)])
  have HBL := Lib.hid (bys_len s)
  generalize numR s = R at *
  go_enter Tryd.func33, Tryd.ntmps33
  go_wp2_with fail
  go_loopw [3, 4] (fun x i wr => ∃ j : Nat, i = .int .i64 j ∧ x = .int .i64 ((dvN ((bys s).take j) : Nat) : Int) ∧ j ≤ s.size ∧ ((bys s).take j).all isD = true ∧ wr = w) (fun _ i _ => s.size - (intOf i).toNat)
  case atStart => exact ⟨0, rfl, rfl, by omega, by simp, rfl⟩
  case round =>
    obtain ⟨j, rfl, rfl, hj, hall, rfl⟩ := hrel
    have HAL := Lib.hid hall
    clear hall
    have hbd : dvN ((bys s).take j) ≤ 300 ^ 7 := by
      have h1 := dvN_lt (bys s) (bys_lt s) j
      have h2 := Nat.pow_le_pow_right (n := 300) (by omega) (show j ≤ 7 by omega)
      omega
    obtain ⟨D, hD⟩ : ∃ D, dvN ((bys s).take j) = D := ⟨_, rfl⟩
    rw [hD] at hbd ⊢
    have HD := Lib.hid hD
    have hbd2 : D ≤ 218700000000000000 := by rw [show 218700000000000000 = 300 ^ 7 from by decide]; exact hbd
    clear hD hbd
    by_cases hlt : j < s.size
    · obtain ⟨c, hc9, hc, hic⟩ := bys_at s j hlt
      have HC := Lib.hid hc
      have hji : (j : Int) < (s.size : Int) := by omega
      clear hc
      by_cases h1 : c < 48
      · have HN := Lib.hid (show R = -1 by rw [HR.out, all_bad HC.out (by unfold isD; simp; omega)]; rfl)
        have a1 : (c : Int) < 48 := by omega
        have a1b : decide ((c : Int) < 48) = true := decide_eq_true a1
        go_wp2_with fail
        all_goals go_ret
        exact ⟨by rw [HN.out]; rfl, rfl⟩
      · have a1b : decide ((c : Int) < 48) = false := decide_eq_false (by omega)
        have a2 : (48 : Int) ≤ (c : Int) := by omega
        by_cases h2 : 57 < c
        · have HN := Lib.hid (show R = -1 by rw [HR.out, all_bad HC.out (by unfold isD; simp; omega)]; rfl)
          have a3 : (57 : Int) < (c : Int) := by omega
          have a3b : decide (57 < (c : Int)) = true := decide_eq_true a3
          go_wp2_with fail
          all_goals go_ret
          exact ⟨by rw [HN.out]; rfl, rfl⟩
        · have a3b : decide (57 < (c : Int)) = false := decide_eq_false (by omega)
          have a3 : (c : Int) ≤ 57 := by omega
          have HN := Lib.hid (all_more HC.out HAL.out (by unfold isD; simp; omega))
          have HV := Lib.hid (show dvN ((bys s).take (j + 1)) = D * 10 + (c - 48) by rw [dvN_next HC.out, HD.out])
          have w1 : IntKind.u8.wrap ((c : Int) - 48) = (c : Int) - 48 := IntWalk.u8_in _ (by omega)
          have w2 : IntKind.i64.wrap ((c : Int) - 48) = (c : Int) - 48 := IntWalk.i64_in _ (by omega)
          have w3 : IntKind.i64.wrap (10 * (D : Int)) = 10 * (D : Int) := IntWalk.i64_in _ (by omega)
          have w4 : IntKind.i64.wrap (10 * (D : Int) + ((c : Int) - 48)) = 10 * (D : Int) + ((c : Int) - 48) := IntWalk.i64_in _ (by omega)
          have HE := Lib.hid (show 10 * (D : Int) + ((c : Int) - 48) = ((D * 10 + (c - 48) : Nat) : Int) by omega)
          go_wp2_with fail
          go_roundw
          case rel => exact ⟨j + 1, by first | rfl | go_num, by rw [HV.out, ← HE.out], by omega, HN.out, by first | rfl | trivial⟩
          case measure => simp [intOf]; omega
    · obtain rfl : j = s.size := by omega
      have ht : (bys s).take s.size = bys s := List.take_of_length_le (by rw [HBL.out]; exact Nat.le_refl _)
      have HN := Lib.hid (show R = (D : Int) by
        have h1 := HAL.out
        have h2 := HD.out
        rw [ht] at h1 h2
        rw [HR.out, h1, if_pos rfl, h2])
      clear ht
      go_wp2_with fail
      all_goals go_ret
      exact ⟨by rw [HN.out]; rfl, rfl⟩
end Go.Proofs.YtbkgmeopdcealaaDoor
